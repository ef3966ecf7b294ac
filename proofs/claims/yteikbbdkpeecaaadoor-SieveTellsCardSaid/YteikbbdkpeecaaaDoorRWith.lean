/- Walks: the reference's SieveWith. -/
import Derived.Test.YteikbbdkpeecaaaDoorRPlaces
import Derived.Deep.RegionHeld3
import Derived.Deep.AppendLies
namespace Go.Proofs.YteikbbdkpeecaaaDoor
open Go.RowKit Go.Shelf
set_option linter.unusedVariables false
set_option linter.unusedSimpArgs false
/-- the reference's way to set a bit: it adds it where it is not -/
def addB (l : List UInt8) (p : Nat) : List UInt8 := if bitB l p then l else l.set (p / 8) (UInt8.ofNat ((l.getD (p / 8) 0).toNat + 2 ^ (p % 8)))
theorem or_add (x r : Nat) (hx : x < 256) (hr : r < 8) (h : x.testBit r = false) : x ||| 2 ^ r = x + 2 ^ r := by
  have key : ∀ x : Fin 256, ∀ r : Fin 8, x.val.testBit r.val = false → x.val ||| 2 ^ r.val = x.val + 2 ^ r.val := by decide +kernel
  exact key ⟨x, hx⟩ ⟨r, hr⟩ h
theorem or_self_bit (x r : Nat) (h : x.testBit r = true) : x ||| 2 ^ r = x := by
  apply Nat.eq_of_testBit_eq
  intro i
  rw [Nat.testBit_or, Nat.testBit_two_pow]
  by_cases e : r = i
  · subst e; rw [h, Bool.true_or]
  · rw [decide_eq_false e, Bool.or_false]
theorem addB_set (l : List UInt8) (p : Nat) : addB l p = setB l p := by
  unfold addB setB
  split
  · rename_i h
    unfold bitB at h
    rw [show orB (l.getD (p / 8) 0) (p % 8) = l.getD (p / 8) 0 by unfold orB; rw [or_self_bit _ _ h]; exact UInt8.ofNat_toNat]
    by_cases e : p / 8 < l.length
    · rw [List.getD_eq_getElem?_getD, List.getElem?_eq_getElem e, Option.getD_some, List.set_getElem_self]
    · rw [List.set_eq_of_length_le (by omega)]
  · rename_i h
    have h2 : bitB l p = false := by simpa using h
    unfold bitB at h2
    unfold orB
    rw [or_add _ _ (UInt8.toNat_lt _) (by omega) h2]
theorem bit_room (l : List UInt8) (p : Nat) (h : bitB l p = false) : (l.getD (p / 8) 0).toNat + 2 ^ (p % 8) < 256 := by
  unfold bitB at h
  rw [← or_add _ _ (UInt8.toNat_lt _) (by omega) h]
  exact or_lt _ _ (by omega)
section
variable {P : Program} {w : World} {ops : Array Oper} {o : Oper} {a : Act} {K : Act → World → Prop} {Q : Exit → Act → World → Prop} {E : Prop}
/-- bytes appended onto an owned slice, as a step of a region that draws its order -/
theorem stepAppRw (T e : TypeId) (z : Value) (size bytes : Nat) (ht : P.underlying T = some (.slice e)) (hinfo : (P.info? e).map (fun i => (i.zero, i.size, i.bytes)) = some (some z, size, bytes)) (hzs : z.cells.size = size) (hsz : 0 < size)
    (hgd : o.guard = none) (s x : Operand) (ho : o.op = .call { callee := .builtin .append, args := #[s, x], argTypes := #[T, T] })
    (base : Nat) (v : Value) (n : Nat) (xs : List Value) (hs : a.eval s = v) (hown : w.ownsRow base e size v n xs) (ad : Addr) (m c : Nat) (news : List Value) (hx : a.eval x = .slice (some ad) m c) (es : TypeId)
    (hu : Rd w (some ad) es news) (hl : news.length = m * size) (h1 : ∀ u ∈ news, u.oneCell' = true) (hm : 0 < m) (hn : n + m ≤ 140737488355328) (hnb : (n + m) * bytes ≤ 140737488355328) (hbase : base ≤ w.heap.size) (H : Nat) (hH : w.heap.size = H)
    (h : ∀ g cap w', w'.ownsRow base e size (.slice (some ⟨g, 0, none⟩) (n + m) cap) (n + m) (xs ++ news) → w.grownBy w' v.ownBlock → (v.ownBlock = some g ∨ g = H) → g < w'.heap.size → K (a.put o.dst (.slice (some ⟨g, 0, none⟩) (n + m) cap)) w') :
    if Region.wanted o (yielded ops a.tmps) = true then Oper.wp P o a w K Q else E := by
  obtain ⟨i, hi, hz, hsz', hb⟩ := info_parts hinfo
  exact step_append_lies w hgd s x T ho base e i z size bytes ht hi hz hsz' hb hzs hsz v n xs hs hown ad m c news hx hl hu.news h1 hm (by simp only [maxLen]; omega) (by omega) hbase H hH h
end
theorem load_i64 {p : Addr} {z : Int} {w : World} (h : w.cell? p = some (.int .i64 z)) : (loadVar 3 p).run Tryd.prog w = .ok (.int .i64 z) w := by go_simp
theorem quiet_int {ops : Array Oper} {C : World → Prop} {Q : Act → Prop} {a : Act} {op : Oper} {rest : List Oper} {x1 : Operand} (ho : op.op = .load 3 x1) (x : Operand) (he_ : x1 = x) (p : Addr) (hx : a.eval x = .pointer (some p)) (z : Int) (hC : ∀ w, C w → w.cell? p = some (.int .i64 z))
    (h : wpQuiet Tryd.prog ops C Q rest (a.put op.dst (.int .i64 z))) (hgd : Region.wanted op (yielded ops a.tmps) = true) : wpQuiet Tryd.prog ops C Q (op :: rest) a := by
  cases he_
  exact quiet_cell hgd _ _ ho p hx _ (fun w hw => load_i64 (hC w hw)) h
theorem load_sv {p : Addr} {x y : Value} {w : World} (h0 : w.cell? ⟨p.block, 0, none⟩ = some x) (h1 : w.cell? ⟨p.block, 1, none⟩ = some y) (hp : p = ⟨p.block, 0, none⟩) (hx : x.oneCell' = true) (hy : y.oneCell' = true) : (loadVar 24 p).run Tryd.prog w = .ok (.agg #[x, y]) w := by
  rw [hp]
  have hr : w.rangeAt p.block 0 [x, y] := by
    intro j v hj
    match j, hj with
    | 0, hj => simp only [List.getElem?_cons_zero, Option.some.injEq] at hj; rw [← hj]; exact h0
    | 1, hj => simp only [List.getElem?_cons_succ, List.getElem?_cons_zero, Option.some.injEq] at hj; rw [← hj]; exact h1
  exact run_loadVar_mid w p.block 0 24 [x, y] _ hr Tryd.underlying24 rfl (by kernel_rfl)
theorem quiet_cell1 {P : Program} {ops : Array Oper} {C : World → Prop} {Q : Act → Prop} {a : Act} {op : Oper} {rest : List Oper} {ty1 : TypeId} {x1 : Operand} (ho : op.op = .load ty1 x1) (x : Operand) (he_ : x1 = x) (p : Addr) (hx : a.eval x = .pointer (some p)) (v : Value) (hC : ∀ w, C w → (loadVar ty1 p).run P w = .ok v w)
    (h : wpQuiet P ops C Q rest (a.put op.dst v)) (hgd : Region.wanted op (yielded ops a.tmps) = true) : wpQuiet P ops C Q (op :: rest) a := by
  cases he_
  exact quiet_cell hgd _ _ ho p hx v hC h
theorem cell_setFar {w : World} {p q : Addr} {v : Value} (h : q.block ≠ p.block) : (w.setCell p v).cell? q = w.cell? q := by
  unfold World.cell?
  simp only [Below.heap_setCell w p v q.block h]
theorem addAll_snoc (l : List UInt8) (ps : List Nat) (p : Nat) : addAll l (ps ++ [p]) = setB (addAll l ps) p := by unfold addAll; rw [List.foldl_append]; rfl
structure RWInv (w1 wx : World) (Y Z c4 : Nat) (bits l : List UInt8) (K : Nat) : Prop where
  ne : Y ≠ Z
  hY : w1.heap.size ≤ Y
  hZ : w1.heap.size ≤ Z
  cell : wx.heap[Y]? = some (.cells #[.slice (some ⟨Z, 0, none⟩) bits.length c4, .int .i64 (K : Int)] 24 (0, 0))
  own : wx.ownsRow w1.heap.size 5 1 (.slice (some ⟨Z, 0, none⟩) bits.length c4) bits.length (l.map vB)
  bel : Below w1.heap.size w1 wx
theorem RWInv.below {w1 wx w' : World} {Y Z c4 : Nat} {bits l : List UInt8} {K : Nat} (h : RWInv w1 wx Y Z c4 bits l K) (hb : Below wx.heap.size wx w') : RWInv w1 w' Y Z c4 bits l K :=
  ⟨h.ne, h.hY, h.hZ, (hb.block _ (lt_of_heap h.cell)).trans h.cell, own_below h.own hb, h.bel.trans (hb.mono h.bel.size)⟩
theorem RWInv.set {w1 wx : World} {Y Z c4 : Nat} {bits l : List UInt8} {K : Nat} (h : RWInv w1 wx Y Z c4 bits l K) (k : Nat) (z : UInt8) : RWInv w1 (wx.setCell ⟨Z, k, none⟩ (.int .u8 z.toNat)) Y Z c4 bits (l.set k z) K :=
  ⟨h.ne, h.hY, h.hZ, (Below.heap_setCell _ _ _ _ h.ne).trans h.cell, own_bset h.own k z, h.bel.setCell (p := ⟨Z, k, none⟩) h.hZ _⟩
set_option maxRecDepth 100000 in
set_option maxHeartbeats 8000000 in
theorem RWith_calls (bits : List UInt8) (hL0 : 0 < bits.length) (hL : bits.length ≤ 1024) (K : Nat) (hK1 : 1 ≤ K) (hK : K ≤ 8) (b : List UInt8) (hbl : b.length ≤ 140737488351232) (a : Option Addr) (c e : Nat) (ab : Option Addr) (cb eb : Nat) (w : World) (h : Rd w a e (bits.map vB)) (hb : Rd w ab eb (b.map vB)) :
    Calls Tryd.prog 13 #[.agg #[.slice a bits.length c, .int .i64 (K : Int)], .slice ab b.length cb] w fun e w' => ∃ a' c' e', e = .returned (.agg #[.slice a' bits.length c', .int .i64 (K : Int)]) ∧ Rd w' a' e' ((addAll bits (placesOf bits.length K b)).map vB) ∧ Below w.heap.size w w' := by
  obtain ⟨sb, so, hab, hsb, _⟩ := h.bytes hL0
  subst hab
  obtain ⟨H, hH⟩ : ∃ H, H = w.heap.size := ⟨_, rfl⟩
  obtain ⟨w0, hw0⟩ : ∃ z, z = w.alloc (.cells #[.slice (some ⟨sb, so, none⟩) bits.length c, .int .i64 (K : Int)] 24) := ⟨_, rfl⟩
  obtain ⟨w1, hw1⟩ : ∃ z, z = w0.alloc (.cells #[.slice none 0 0, .int .i64 0] 24) := ⟨_, rfl⟩
  have q0 : w0.heap.size = H + 1 := by rw [hw0, hH]; exact World.size_alloc _ _
  have q1 : w1.heap.size = H + 1 + 1 := by rw [hw1, World.size_alloc, q0]
  have b0 : Below H w w0 := by rw [hw0, hH]; exact (Below.refl _ _).alloc (Nat.le_refl _) _
  have b01 : Below (H + 1) w0 w1 := by rw [hw1, ← q0]; exact (Below.refl _ _).alloc (Nat.le_refl _) _
  have b1 : Below H w w1 := b0.trans (b01.mono (by omega))
  have g0 : w1.heap[H]? = some (.cells #[.slice (some ⟨sb, so, none⟩) bits.length c, .int .i64 (K : Int)] 24 (0, 0)) := by
    have g : w0.heap[H]? = some (.cells #[.slice (some ⟨sb, so, none⟩) bits.length c, .int .i64 (K : Int)] 24 (0, 0)) := by rw [hw0, hH]; exact heap_alloc_new _ _
    exact (b01.block _ (by omega)).trans g
  have g1 : w1.heap[H + 1]? = some (.cells #[.slice none 0 0, .int .i64 0] 24 (0, 0)) := by rw [hw1, ← q0]; exact heap_alloc_new _ _
  have b1w : Below w.heap.size w w1 := by rw [← hH]; exact b1
  have c0 : w1.cell? ⟨H, 0, none⟩ = some (.slice (some ⟨sb, so, none⟩) bits.length c) := by rw [cell_of_row _ _ _ _ _ _ g0]; rfl
  have c1 : w1.cell? ⟨H, 1, none⟩ = some (.int .i64 (K : Int)) := by rw [cell_of_row _ _ _ _ _ _ g0]; rfl
  have HR := Lib.hid (h.below b1w)
  have HB := Lib.hid (hb.below b1w)
  have HW0 := Lib.hid hw0
  have HW1 := Lib.hid hw1
  have HH := Lib.hid hH
  have B1 := Lib.hid b1
  have G0 := Lib.hid g0
  have G1 := Lib.hid g1
  have Q1 := Lib.hid q1
  have hH1 : H + 1 < w1.heap.size := by omega
  clear q0 q1 b0 b01 b1 g0 g1 b1w hw0 hw1 hH h hb
  go_enter Tryd.func13, Tryd.ntmps13
  go_upto_region 1 with fail
  rw [← HH.out, ← HW0.out, ← HW1.out]
  have hHlt : H < w1.heap.size := by omega
  have SH1 := Lib.hid (show w1.cell? ⟨H, 0, none⟩ = some (.slice (some ⟨sb, so, none⟩) bits.length c) ∧ w1.cell? ⟨H, 1, none⟩ = some (.int .i64 (K : Int)) from ⟨c0, c1⟩)
  obtain ⟨wD, hwD⟩ : ∃ z, z = w1.drew := ⟨_, rfl⟩
  have bD : Below w1.heap.size w1 wD := by rw [hwD]; exact (Below.refl _ _).drew
  have sD : wD.heap.size = w1.heap.size := by rw [hwD]; rfl
  obtain ⟨wE, hwE⟩ : ∃ z, z = wD.alloc (.cells #[] 5) := ⟨_, rfl⟩
  have bE : Below w1.heap.size w1 wE := by rw [hwE]; exact bD.alloc (by omega) _
  have sE : wE.heap.size = w1.heap.size + 1 := by rw [hwE, World.size_alloc, sD]
  have oE : wE.ownsRow wD.heap.size 5 1 (.slice (some ⟨wD.heap.size, 0, none⟩) 0 0) 0 [] := by rw [hwE]; exact World.ownsRow_made wD #[] 0 (Nat.le_refl _) (Nat.zero_le _) rfl
  have RD := Lib.hid (HR.out.below bD)
  have RE := Lib.hid (HR.out.below bE)
  have SHD := Lib.hid (show wD.cell? ⟨H, 0, none⟩ = some (.slice (some ⟨sb, so, none⟩) bits.length c) ∧ wD.cell? ⟨H, 1, none⟩ = some (.int .i64 (K : Int)) from ⟨(bD.cell (p := ⟨H, 0, none⟩) hHlt).trans c0, (bD.cell (p := ⟨H, 1, none⟩) hHlt).trans c1⟩)
  have SHE := Lib.hid (show wE.cell? ⟨H, 0, none⟩ = some (.slice (some ⟨sb, so, none⟩) bits.length c) ∧ wE.cell? ⟨H, 1, none⟩ = some (.int .i64 (K : Int)) from ⟨(bE.cell (p := ⟨H, 0, none⟩) hHlt).trans c0, (bE.cell (p := ⟨H, 1, none⟩) hHlt).trans c1⟩)
  have HWD := Lib.hid hwD
  have HWE := Lib.hid hwE
  have BD := Lib.hid bD
  have BE := Lib.hid bE
  have OE := Lib.hid oE
  have SD := Lib.hid sD
  have SE := Lib.hid sE
  clear hwD bD sD hwE bE sE oE c0 c1
  go_cut [5] from 10 to 16 (fun s wx => ∃ Y Z c4 : Nat, s = .pointer (some ⟨Y, 0, none⟩) ∧ Hid (RWInv w1 wx Y Z c4 bits bits K))
  case first =>
    refine wp_region_held_drew (S := fun w' => w'.cell? ⟨H, 0, none⟩ = some (.slice (some ⟨sb, so, none⟩) bits.length c) ∧ w'.cell? ⟨H, 1, none⟩ = some (.int .i64 (K : Int))) (by kernel_rfl) SH1.out (fun hHeld => ?_)
    rw [← HWD.out]
    clear hHeld
    have hHeld := SHD.out
    refine wpAnyH_take (i := 1) (oi := _) (v := .pointer (some ⟨H, 0, none⟩)) rfl (by kernel_rfl) (by kernel_rfl) (by kernel_rfl) (fun _ _ _ h => h) (Or.inl ⟨by rfl, fun w hw => by go_simp⟩) hHeld ?_
    simp only [Act.put, List.getElem_toArray, List.getElem_cons_zero, List.getElem_cons_succ, List.setIfInBounds_toArray, List.set_cons_zero, List.set_cons_succ]
    refine wpAnyH_take (i := 2) (oi := _) (v := .slice (some ⟨sb, so, none⟩) bits.length c) rfl (by kernel_rfl) (by kernel_rfl) (by kernel_rfl) (fun _ _ _ h => h) (Or.inl ⟨by rfl, fun w hw => by obtain ⟨s0, s1⟩ := hw; go_simp⟩) hHeld ?_
    simp only [Act.put, List.getElem_toArray, List.getElem_cons_zero, List.getElem_cons_succ, List.setIfInBounds_toArray, List.set_cons_zero, List.set_cons_succ]
    refine wpAnyH_take (i := 4) (oi := _) (v := .pointer (some ⟨H, 1, none⟩)) rfl (by kernel_rfl) (by kernel_rfl) (by kernel_rfl) (fun _ _ _ h => h) (Or.inl ⟨by rfl, fun w hw => by go_simp⟩) hHeld ?_
    simp only [Act.put, List.getElem_toArray, List.getElem_cons_zero, List.getElem_cons_succ, List.setIfInBounds_toArray, List.set_cons_zero, List.set_cons_succ]
    refine wpAnyH_take (i := 5) (oi := _) (v := .int .i64 (K : Int)) rfl (by kernel_rfl) (by kernel_rfl) (by kernel_rfl) (fun _ _ _ h => h) (Or.inl ⟨by rfl, fun w hw => by obtain ⟨s0, s1⟩ := hw; go_simp⟩) hHeld ?_
    simp only [Act.put, List.getElem_toArray, List.getElem_cons_zero, List.getElem_cons_succ, List.setIfInBounds_toArray, List.set_cons_zero, List.set_cons_succ]
    refine wpAnyH_ready (rs := [0, 7]) (by kernel_rfl) (by simp) ?_
    refine AllReadyH.cons (o := _) rfl (fun K9 hK => ?_) (AllReadyH.cons (o := _) rfl (fun K9 hK => ?_) AllReadyH.nil)
    · have HK := Lib.hid hK
      clear hK
      go_simp
      rw [← HWE.out]
      clear hHeld
      refine HK.out _ _ SHE.out ?_
      clear HK K9
      try simp only [Act.put, List.getElem_toArray, List.getElem_cons_zero, List.getElem_cons_succ, List.setIfInBounds_toArray, List.set_cons_zero, List.set_cons_succ]
      intro hHeld
      refine wpAnyH_ready (rs := [3, 7]) (by kernel_rfl) (by simp) ?_
      refine AllReadyH.cons (o := _) rfl (fun K9 hK => ?_) (AllReadyH.cons (o := _) rfl (fun K9 hK => ?_) AllReadyH.nil)
      · have HK := Lib.hid hK
        clear hK
        refine stepAppRw 22 5 (.int .u8 0) 1 1 Tryd.underlying22 info_byte rfl (by omega) rfl (.tmp 10) (.tmp 12) rfl wD.heap.size _ 0 [] (by rfl) OE.out ⟨sb, so, none⟩ bits.length c (bits.map vB) (by rfl) _ RE.out (by rw [List.length_map, Nat.mul_one]) (one_bytes bits) hL0 (by omega) (by omega) (by have := SE.out; have := SD.out; omega) _ rfl ?_
        intro Z c4 w5 hown hgrow hor _
        rw [List.nil_append, Nat.zero_add] at hown
        have bw5 : Below wD.heap.size wE w5 := below_grow (Below.refl _ _) OE.out hgrow (by have := SE.out; have := SD.out; omega)
        have HO := Lib.hid hown
        have HOR := Lib.hid hor
        have HGR := Lib.hid hgrow
        rw [Nat.zero_add]
        clear hown hgrow hor hHeld
        have SH5 := Lib.hid (show w5.cell? ⟨H, 0, none⟩ = some (.slice (some ⟨sb, so, none⟩) bits.length c) ∧ w5.cell? ⟨H, 1, none⟩ = some (.int .i64 (K : Int)) from ⟨(bw5.cell (p := ⟨H, 0, none⟩) (by show H < _; have := SD.out; omega)).trans SHE.out.1, (bw5.cell (p := ⟨H, 1, none⟩) (by show H < _; have := SD.out; omega)).trans SHE.out.2⟩)
        have B5 := Lib.hid (show Below w1.heap.size w1 w5 from BE.out.trans (bw5.mono (by have := SD.out; omega)))
        have hl5 := B5.out.size
        refine HK.out _ _ SH5.out ?_
        clear HK K9
        try simp only [Act.put, List.getElem_toArray, List.getElem_cons_zero, List.getElem_cons_succ, List.setIfInBounds_toArray, List.set_cons_zero, List.set_cons_succ]
        intro hHeld
        refine wpAnyH_take (i := 6) (oi := _) (v := .agg #[.slice (some ⟨Z, 0, none⟩) bits.length c4, .int .i64 (K : Int)]) rfl (by kernel_rfl) (by kernel_rfl) (by kernel_rfl) (fun _ _ _ h => h) (Or.inl ⟨by rfl, fun w hw => by go_simp⟩) hHeld ?_
        simp only [Act.put, List.getElem_toArray, List.getElem_cons_zero, List.getElem_cons_succ, List.setIfInBounds_toArray, List.set_cons_zero, List.set_cons_succ]
        obtain ⟨wY, hwY⟩ : ∃ z, z = w5.alloc (.cells #[.slice (some ⟨Z, 0, none⟩) bits.length c4, .int .i64 (K : Int)] 24) := ⟨_, rfl⟩
        have SHY : ∀ cs, (w5.alloc (.cells cs 24)).cell? ⟨H, 0, none⟩ = some (.slice (some ⟨sb, so, none⟩) bits.length c) ∧ (w5.alloc (.cells cs 24)).cell? ⟨H, 1, none⟩ = some (.int .i64 (K : Int)) := fun cs => ⟨(((Below.refl w5.heap.size w5).alloc (Nat.le_refl _) _).cell (p := ⟨H, 0, none⟩) (by show H < _; omega)).trans SH5.out.1, (((Below.refl w5.heap.size w5).alloc (Nat.le_refl _) _).cell (p := ⟨H, 1, none⟩) (by show H < _; omega)).trans SH5.out.2⟩
        have SHYH := Lib.hid SHY
        have HWY := Lib.hid hwY
        clear SHY hwY hHeld
        have hHeld := SH5.out
        refine wpAnyH_ready (rs := [7]) (by kernel_rfl) (by simp) ?_
        refine AllReadyH.cons (o := _) rfl (fun K9 hK => ?_) AllReadyH.nil
        have HK := Lib.hid hK
        clear hK
        go_simp
        clear hHeld
        refine HK.out _ _ (SHYH.out _) ?_
        clear HK K9
        try simp only [Act.put, List.getElem_toArray, List.getElem_cons_zero, List.getElem_cons_succ, List.setIfInBounds_toArray, List.set_cons_zero, List.set_cons_succ]
        intro hHeld
        refine wpAnyH_ready (rs := [8]) (by kernel_rfl) (by simp) ?_
        refine AllReadyH.cons (o := _) rfl (fun K9 hK => ?_) AllReadyH.nil
        have HK := Lib.hid hK
        clear hK
        go_simp
        rw [← HWY.out]
        clear hHeld
        refine HK.out _ _ (by rw [HWY.out]; exact SHYH.out _) ?_
        clear HK K9
        try simp only [Act.put, List.getElem_toArray, List.getElem_cons_zero, List.getElem_cons_succ, List.setIfInBounds_toArray, List.set_cons_zero, List.set_cons_succ]
        intro hHeld
        refine wpAnyH_done (by kernel_rfl) ?_ _
        have hZl := (HO.out.lt Z rfl)
        have HIV : Hid (RWInv w1 wY w5.heap.size Z c4 bits bits K) := Lib.hid ⟨fun h => by omega, hl5, by have := SD.out; omega, by rw [HWY.out]; exact heap_alloc_new _ _, by rw [HWY.out]; exact (own_low HO.out (by have := SD.out; omega)).alloc _, by rw [HWY.out]; exact B5.out.alloc hl5 _⟩
        clear hZl HO HOR HGR HWY SHYH
        go_wp2_with fail
        go_meet
        exact ⟨_, Z, c4, rfl, HIV⟩
      · have HK := Lib.hid hK
        clear hK
        have sG := World.size_alloc wE (.cells #[.slice none 0 0, .int .i64 0] 24)
        have OG := Lib.hid (OE.out.alloc (.cells #[.slice none 0 0, .int .i64 0] 24))
        have RG := Lib.hid (RE.out.alloc (.cells #[.slice none 0 0, .int .i64 0] 24))
        have gY0 : (wE.alloc (.cells #[.slice none 0 0, .int .i64 0] 24)).heap[wE.heap.size]? = some (.cells #[.slice none 0 0, .int .i64 0] 24 (0, 0)) := heap_alloc_new _ _
        have bG : Below w1.heap.size w1 (wE.alloc (.cells #[.slice none 0 0, .int .i64 0] 24)) := BE.out.alloc BE.out.size _
        have SHG := Lib.hid (show (wE.alloc (.cells #[.slice none 0 0, .int .i64 0] 24)).cell? ⟨H, 0, none⟩ = some (.slice (some ⟨sb, so, none⟩) bits.length c) ∧ (wE.alloc (.cells #[.slice none 0 0, .int .i64 0] 24)).cell? ⟨H, 1, none⟩ = some (.int .i64 (K : Int)) from ⟨(bG.cell (p := ⟨H, 0, none⟩) hHlt).trans SH1.out.1, (bG.cell (p := ⟨H, 1, none⟩) hHlt).trans SH1.out.2⟩)
        obtain ⟨wG, hwG⟩ : ∃ z, z = wE.alloc (.cells #[.slice none 0 0, .int .i64 0] 24) := ⟨_, rfl⟩
        rw [← hwG] at OG RG gY0 bG SHG sG
        have HWG := Lib.hid hwG
        have GY0 := Lib.hid gY0
        have BG := Lib.hid bG
        have HSG := Lib.hid sG
        have HSF := Lib.hid (True.intro)
        clear hwG gY0 bG sG
        go_simp
        rw [← HWG.out]
        clear hHeld
        refine HK.out _ _ SHG.out ?_
        clear HK K9
        try simp only [Act.put, List.getElem_toArray, List.getElem_cons_zero, List.getElem_cons_succ, List.setIfInBounds_toArray, List.set_cons_zero, List.set_cons_succ]
        intro hHeld
        refine wpAnyH_ready (rs := [3]) (by kernel_rfl) (by simp) ?_
        refine AllReadyH.cons (o := _) rfl (fun K9 hK => ?_) AllReadyH.nil
        have HK := Lib.hid hK
        clear hK
        refine stepAppRw 22 5 (.int .u8 0) 1 1 Tryd.underlying22 info_byte rfl (by omega) rfl (.tmp 10) (.tmp 12) rfl wD.heap.size _ 0 [] (by rfl) OG.out ⟨sb, so, none⟩ bits.length c (bits.map vB) (by rfl) _ RG.out (by rw [List.length_map, Nat.mul_one]) (one_bytes bits) hL0 (by omega) (by omega) (by have := HSG.out; have := SE.out; have := SD.out; omega) _ rfl ?_
        intro Z c4 w5 hown hgrow hor _
        rw [List.nil_append, Nat.zero_add] at hown
        have bw5 : Below wD.heap.size wG w5 := below_grow (Below.refl _ _) OG.out hgrow (by have := HSG.out; have := SE.out; have := SD.out; omega)
        have HO := Lib.hid hown
        have HOR := Lib.hid hor
        have HGR := Lib.hid hgrow
        rw [Nat.zero_add]
        clear hown hgrow hor hHeld
        have SH5 := Lib.hid (show w5.cell? ⟨H, 0, none⟩ = some (.slice (some ⟨sb, so, none⟩) bits.length c) ∧ w5.cell? ⟨H, 1, none⟩ = some (.int .i64 (K : Int)) from ⟨(bw5.cell (p := ⟨H, 0, none⟩) (by show H < _; have := SD.out; have := HSF.out; have := HSG.out; omega)).trans SHG.out.1, (bw5.cell (p := ⟨H, 1, none⟩) (by show H < _; have := SD.out; have := HSF.out; have := HSG.out; omega)).trans SHG.out.2⟩)
        have B5 := Lib.hid (show Below w1.heap.size w1 w5 from BG.out.trans (bw5.mono (by have := SD.out; have := HSF.out; have := HSG.out; omega)))
        have hl5 := B5.out.size
        obtain ⟨Y, hY⟩ : ∃ Y, Y = wE.heap.size := ⟨_, rfl⟩
        have GY5 := Lib.hid (show w5.heap[Y]? = some (.cells #[.slice none 0 0, .int .i64 0] 24 (0, 0)) by rw [hY]; exact (HGR.out.block wE.heap.size (lt_of_heap GY0.out) (fun h => by simp only [Value.ownBlock, Option.map_some, Option.some.injEq] at h; have := SE.out; have := SD.out; omega)).trans GY0.out)
        have HNE : Hid (Y ≠ Z) := Lib.hid (by rw [hY]; exact fun h => HOR.out.elim (fun h2 => by simp only [Value.ownBlock, Option.map_some, Option.some.injEq] at h2; have := SE.out; have := SD.out; omega) (fun h2 => by have := HSG.out; have := SE.out; omega))
        have hYH : H ≠ Y := by have := SD.out; have := SE.out; have := HSF.out; have := HSG.out; omega
        have hYw : w1.heap.size ≤ Y := by have := SD.out; have := SE.out; have := HSF.out; have := HSG.out; omega
        rw [← hY]
        have hYE : H < Y := by have := SD.out; have := SE.out; have := HSF.out; have := HSG.out; omega
        clear hY
        refine HK.out _ _ SH5.out ?_
        clear HK K9
        try simp only [Act.put, List.getElem_toArray, List.getElem_cons_zero, List.getElem_cons_succ, List.setIfInBounds_toArray, List.set_cons_zero, List.set_cons_succ]
        intro hHeld
        refine wpAnyH_take (i := 6) (oi := _) (v := .agg #[.slice (some ⟨Z, 0, none⟩) bits.length c4, .int .i64 (K : Int)]) rfl (by kernel_rfl) (by kernel_rfl) (by kernel_rfl) (fun _ _ _ h => h) (Or.inl ⟨by rfl, fun w hw => by go_simp⟩) hHeld ?_
        simp only [Act.put, List.getElem_toArray, List.getElem_cons_zero, List.getElem_cons_succ, List.setIfInBounds_toArray, List.set_cons_zero, List.set_cons_succ]
        have d1 : w5.cell? ⟨Y, 0, none⟩ = some (.slice none 0 0) := by rw [cell_of_row _ _ _ _ _ _ GY5.out]; rfl
        have d2 : w5.cell? ⟨Y, 1, none⟩ = some (.int .i64 0) := by rw [cell_of_row _ _ _ _ _ _ GY5.out]; rfl
        have f1 : w5.frozen? ⟨Y, 0, none⟩ = false := frozen_of_row _ _ _ _ _ GY5.out
        have f2 : w5.frozen? ⟨Y, 1, none⟩ = false := frozen_of_row _ _ _ _ _ GY5.out
        refine wpAnyH_ready (rs := [8]) (by kernel_rfl) (by simp) ?_
        refine AllReadyH.cons (o := _) rfl (fun K9 hK => ?_) AllReadyH.nil
        have HK := Lib.hid hK
        clear hK
        go_simp
        obtain ⟨wY, hwY⟩ : ∃ z, z = (w5.setCell ⟨Y, 0, none⟩ (.slice (some ⟨Z, 0, none⟩) bits.length c4)).setCell ⟨Y, 1, none⟩ (.int .i64 (K : Int)) := ⟨_, rfl⟩
        rw [← hwY]
        have bY : Below Y w5 wY := by rw [hwY]; exact ((Below.refl _ _).setCell (p := ⟨Y, 0, none⟩) (Nat.le_refl _) _).setCell (p := ⟨Y, 1, none⟩) (Nat.le_refl _) _
        have hHY := hYE
        clear hHeld d1 d2 f1 f2
        refine HK.out _ _ ⟨(bY.cell (p := ⟨H, 0, none⟩) hHY).trans SH5.out.1, (bY.cell (p := ⟨H, 1, none⟩) hHY).trans SH5.out.2⟩ ?_
        clear HK K9
        try simp only [Act.put, List.getElem_toArray, List.getElem_cons_zero, List.getElem_cons_succ, List.setIfInBounds_toArray, List.set_cons_zero, List.set_cons_succ]
        intro hHeld
        refine wpAnyH_done (by kernel_rfl) ?_ _
        have hZl := (HO.out.lt Z rfl)
        have HIV : Hid (RWInv w1 wY Y Z c4 bits bits K) := Lib.hid ⟨HNE.out, hYw, by have := SD.out; have := SE.out; have := HSF.out; have := HSG.out; omega, by rw [hwY]; exact heap_set_one (i := 1) (heap_set_one (i := 0) GY5.out _) _, by rw [hwY]; exact own_far (own_far (own_low HO.out (by have := SD.out; have := SE.out; have := HSF.out; have := HSG.out; omega)) _ _ (by show Z ≠ Y; exact HNE.out.symm)) _ _ (by show Z ≠ Y; exact HNE.out.symm), B5.out.trans (bY.mono hYw)⟩
        clear hZl HO HOR HGR hwY bY
        go_wp2_with fail
        go_meet
        exact ⟨_, Z, c4, rfl, HIV⟩
    · have HK := Lib.hid hK
      clear hK
      have gY0 : (wD.alloc (.cells #[.slice none 0 0, .int .i64 0] 24)).heap[wD.heap.size]? = some (.cells #[.slice none 0 0, .int .i64 0] 24 (0, 0)) := heap_alloc_new _ _
      have sF := World.size_alloc wD (.cells #[.slice none 0 0, .int .i64 0] 24)
      have bF : Below w1.heap.size w1 (wD.alloc (.cells #[.slice none 0 0, .int .i64 0] 24)) := BD.out.alloc BD.out.size _
      obtain ⟨wF, hwF⟩ : ∃ z, z = wD.alloc (.cells #[.slice none 0 0, .int .i64 0] 24) := ⟨_, rfl⟩
      rw [← hwF] at gY0 sF bF
      obtain ⟨wG, hwG⟩ : ∃ z, z = wF.alloc (.cells #[] 5) := ⟨_, rfl⟩
      have sG : wG.heap.size = wF.heap.size + 1 := by rw [hwG]; exact World.size_alloc _ _
      have bFG : Below wF.heap.size wF wG := by rw [hwG]; exact (Below.refl _ _).alloc (Nat.le_refl _) _
      have bG : Below w1.heap.size w1 wG := bF.trans (bFG.mono bF.size)
      have OG := Lib.hid (show wG.ownsRow wF.heap.size 5 1 (.slice (some ⟨wF.heap.size, 0, none⟩) 0 0) 0 [] by rw [hwG]; exact World.ownsRow_made wF #[] 0 (Nat.le_refl _) (Nat.zero_le _) rfl)
      have RG := Lib.hid (HR.out.below bG)
      have GY0 := Lib.hid ((bFG.block _ (lt_of_heap gY0)).trans gY0)
      have SHF := Lib.hid (show wF.cell? ⟨H, 0, none⟩ = some (.slice (some ⟨sb, so, none⟩) bits.length c) ∧ wF.cell? ⟨H, 1, none⟩ = some (.int .i64 (K : Int)) from ⟨(bF.cell (p := ⟨H, 0, none⟩) hHlt).trans SH1.out.1, (bF.cell (p := ⟨H, 1, none⟩) hHlt).trans SH1.out.2⟩)
      have SHG := Lib.hid (show wG.cell? ⟨H, 0, none⟩ = some (.slice (some ⟨sb, so, none⟩) bits.length c) ∧ wG.cell? ⟨H, 1, none⟩ = some (.int .i64 (K : Int)) from ⟨(bG.cell (p := ⟨H, 0, none⟩) hHlt).trans SH1.out.1, (bG.cell (p := ⟨H, 1, none⟩) hHlt).trans SH1.out.2⟩)
      have HWF := Lib.hid hwF
      have HWG := Lib.hid hwG
      have BG := Lib.hid bG
      have HSF := Lib.hid sF
      have HSG := Lib.hid sG
      clear hwF hwG gY0 bF bFG bG sF sG
      go_simp
      rw [← HWF.out]
      clear hHeld
      refine HK.out _ _ SHF.out ?_
      clear HK K9
      try simp only [Act.put, List.getElem_toArray, List.getElem_cons_zero, List.getElem_cons_succ, List.setIfInBounds_toArray, List.set_cons_zero, List.set_cons_succ]
      intro hHeld
      refine wpAnyH_ready (rs := [0]) (by kernel_rfl) (by simp) ?_
      refine AllReadyH.cons (o := _) rfl (fun K9 hK => ?_) AllReadyH.nil
      have HK := Lib.hid hK
      clear hK
      go_simp
      rw [← HWG.out]
      clear hHeld
      refine HK.out _ _ SHG.out ?_
      clear HK K9
      try simp only [Act.put, List.getElem_toArray, List.getElem_cons_zero, List.getElem_cons_succ, List.setIfInBounds_toArray, List.set_cons_zero, List.set_cons_succ]
      intro hHeld
      refine wpAnyH_ready (rs := [3]) (by kernel_rfl) (by simp) ?_
      refine AllReadyH.cons (o := _) rfl (fun K9 hK => ?_) AllReadyH.nil
      have HK := Lib.hid hK
      clear hK
      refine stepAppRw 22 5 (.int .u8 0) 1 1 Tryd.underlying22 info_byte rfl (by omega) rfl (.tmp 10) (.tmp 12) rfl wF.heap.size _ 0 [] (by rfl) OG.out ⟨sb, so, none⟩ bits.length c (bits.map vB) (by rfl) _ RG.out (by rw [List.length_map, Nat.mul_one]) (one_bytes bits) hL0 (by omega) (by omega) (by have := HSG.out; omega) _ rfl ?_
      intro Z c4 w5 hown hgrow hor _
      rw [List.nil_append, Nat.zero_add] at hown
      have bw5 : Below wF.heap.size wG w5 := below_grow (Below.refl _ _) OG.out hgrow (by have := HSG.out; omega)
      have HO := Lib.hid hown
      have HOR := Lib.hid hor
      have HGR := Lib.hid hgrow
      rw [Nat.zero_add]
      clear hown hgrow hor hHeld
      have SH5 := Lib.hid (show w5.cell? ⟨H, 0, none⟩ = some (.slice (some ⟨sb, so, none⟩) bits.length c) ∧ w5.cell? ⟨H, 1, none⟩ = some (.int .i64 (K : Int)) from ⟨(bw5.cell (p := ⟨H, 0, none⟩) (by show H < _; have := SD.out; have := HSF.out; have := HSG.out; omega)).trans SHG.out.1, (bw5.cell (p := ⟨H, 1, none⟩) (by show H < _; have := SD.out; have := HSF.out; have := HSG.out; omega)).trans SHG.out.2⟩)
      have B5 := Lib.hid (show Below w1.heap.size w1 w5 from BG.out.trans (bw5.mono (by have := SD.out; have := HSF.out; have := HSG.out; omega)))
      have hl5 := B5.out.size
      obtain ⟨Y, hY⟩ : ∃ Y, Y = wD.heap.size := ⟨_, rfl⟩
      have GY5 := Lib.hid (show w5.heap[Y]? = some (.cells #[.slice none 0 0, .int .i64 0] 24 (0, 0)) by rw [hY]; exact (bw5.block wD.heap.size (by have := HSF.out; omega)).trans GY0.out)
      have HNE : Hid (Y ≠ Z) := Lib.hid (by rw [hY]; exact fun h => by have := (HO.out.lt Z rfl).1; have := HSF.out; omega)
      have hYH : H ≠ Y := by have := SD.out; have := SE.out; have := HSF.out; have := HSG.out; omega
      have hYw : w1.heap.size ≤ Y := by have := SD.out; have := SE.out; have := HSF.out; have := HSG.out; omega
      rw [← hY]
      have hYE : H < Y := by have := SD.out; have := SE.out; have := HSF.out; have := HSG.out; omega
      clear hY
      refine HK.out _ _ SH5.out ?_
      clear HK K9
      try simp only [Act.put, List.getElem_toArray, List.getElem_cons_zero, List.getElem_cons_succ, List.setIfInBounds_toArray, List.set_cons_zero, List.set_cons_succ]
      intro hHeld
      refine wpAnyH_take (i := 6) (oi := _) (v := .agg #[.slice (some ⟨Z, 0, none⟩) bits.length c4, .int .i64 (K : Int)]) rfl (by kernel_rfl) (by kernel_rfl) (by kernel_rfl) (fun _ _ _ h => h) (Or.inl ⟨by rfl, fun w hw => by go_simp⟩) hHeld ?_
      simp only [Act.put, List.getElem_toArray, List.getElem_cons_zero, List.getElem_cons_succ, List.setIfInBounds_toArray, List.set_cons_zero, List.set_cons_succ]
      have d1 : w5.cell? ⟨Y, 0, none⟩ = some (.slice none 0 0) := by rw [cell_of_row _ _ _ _ _ _ GY5.out]; rfl
      have d2 : w5.cell? ⟨Y, 1, none⟩ = some (.int .i64 0) := by rw [cell_of_row _ _ _ _ _ _ GY5.out]; rfl
      have f1 : w5.frozen? ⟨Y, 0, none⟩ = false := frozen_of_row _ _ _ _ _ GY5.out
      have f2 : w5.frozen? ⟨Y, 1, none⟩ = false := frozen_of_row _ _ _ _ _ GY5.out
      refine wpAnyH_ready (rs := [8]) (by kernel_rfl) (by simp) ?_
      refine AllReadyH.cons (o := _) rfl (fun K9 hK => ?_) AllReadyH.nil
      have HK := Lib.hid hK
      clear hK
      go_simp
      obtain ⟨wY, hwY⟩ : ∃ z, z = (w5.setCell ⟨Y, 0, none⟩ (.slice (some ⟨Z, 0, none⟩) bits.length c4)).setCell ⟨Y, 1, none⟩ (.int .i64 (K : Int)) := ⟨_, rfl⟩
      rw [← hwY]
      have bY : Below Y w5 wY := by rw [hwY]; exact ((Below.refl _ _).setCell (p := ⟨Y, 0, none⟩) (Nat.le_refl _) _).setCell (p := ⟨Y, 1, none⟩) (Nat.le_refl _) _
      have hHY := hYE
      clear hHeld d1 d2 f1 f2
      refine HK.out _ _ ⟨(bY.cell (p := ⟨H, 0, none⟩) hHY).trans SH5.out.1, (bY.cell (p := ⟨H, 1, none⟩) hHY).trans SH5.out.2⟩ ?_
      clear HK K9
      try simp only [Act.put, List.getElem_toArray, List.getElem_cons_zero, List.getElem_cons_succ, List.setIfInBounds_toArray, List.set_cons_zero, List.set_cons_succ]
      intro hHeld
      refine wpAnyH_done (by kernel_rfl) ?_ _
      have hZl := (HO.out.lt Z rfl)
      have HIV : Hid (RWInv w1 wY Y Z c4 bits bits K) := Lib.hid ⟨HNE.out, hYw, by have := SD.out; have := SE.out; have := HSF.out; have := HSG.out; omega, by rw [hwY]; exact heap_set_one (i := 1) (heap_set_one (i := 0) GY5.out _) _, by rw [hwY]; exact own_far (own_far (own_low HO.out (by have := SD.out; have := SE.out; have := HSF.out; have := HSG.out; omega)) _ _ (by show Z ≠ Y; exact HNE.out.symm)) _ _ (by show Z ≠ Y; exact HNE.out.symm), B5.out.trans (bY.mono hYw)⟩
      clear hZl HO HOR HGR hwY bY
      go_wp2_with fail
      go_meet
      exact ⟨_, Z, c4, rfl, HIV⟩
  case rest =>
  obtain ⟨Y, Z, c4, rfl, HI⟩ := hcut
  obtain ⟨wx, hwx⟩ : ∃ z, z = wc := ⟨_, rfl⟩
  rw [← hwx] at HI ⊢
  clear hwx
  have d0 : wx.cell? ⟨H, 0, none⟩ = some (.slice (some ⟨sb, so, none⟩) bits.length c) := (HI.out.bel.cell (p := ⟨H, 0, none⟩) hHlt).trans SH1.out.1
  have d1 : wx.cell? ⟨H, 1, none⟩ = some (.int .i64 (K : Int)) := (HI.out.bel.cell (p := ⟨H, 1, none⟩) hHlt).trans SH1.out.2
  obtain ⟨ps, hps⟩ : ∃ ps, ps = placesOf bits.length K b := ⟨_, rfl⟩
  have hpl : ps.length = K := by rw [hps]; exact placesOf_length _ _ _
  have hplt : ∀ p ∈ ps, p < 8 * bits.length := by rw [hps]; exact placesOf_lt _ hL0 _ _
  have PC := RPlaces_calls bits.length hL0 hL K hK b hbl (some ⟨sb, so, none⟩) c ab cb eb wx (HB.out.below HI.out.bel)
  rw [← hps] at PC
  have HPS := Lib.hid hps
  have HPL := Lib.hid hpl
  have HPLT := Lib.hid hplt
  have HPC := Lib.hid PC
  clear PC hps hplt hpl RD RE BD BE OE SD SE HWD HWE SHD SHE
  go_wp2_with fail
  refine HPC.out.mono ?_
  rintro e w2 ⟨pa, pcp, rfl, hown2, hb2⟩
  rw [HPL.out] at hown2 ⊢
  obtain ⟨pg, rfl, hpg⟩ := own_some hown2 (by omega : 0 < K)
  have HI2 := Lib.hid (HI.out.below hb2)
  have HPG2 : Hid (∀ j, j < K → w2.cell? ⟨pg, j, none⟩ = some (.int .i64 ((ps.getD j 0 : Nat) : Int))) := Lib.hid (fun j hj => by
    have := (own_cell hown2 (k := j) (by rw [List.length_map, HPL.out]; exact hj)).1
    rw [this, List.getElem_map, List.getD_eq_getElem?_getD, List.getElem?_eq_getElem (by rw [HPL.out]; exact hj)]; rfl)
  have hYx := lt_of_heap HI.out.cell
  have hZx := (HI.out.own.lt Z rfl).2
  have HPGL := Lib.hid (show pg < w2.heap.size from (hown2.lt pg rfl).2)
  have HPZ : Hid (Z ≠ pg) := Lib.hid (fun h => by omega)
  have HLpg := Lib.hid (show w1.heap.size ≤ pg from Nat.le_trans HI.out.bel.size hpg)
  clear d0 d1 hown2 hb2 HPC hYx hZx hpg HI
  go_wp2_with fail
  go_loopw [7] (fun i wr => ∃ k : Nat, k ≤ K ∧ i = .int .i64 k ∧ Hid (RWInv w1 wr Y Z c4 bits (addAll bits (ps.take k)) K) ∧ Hid (pg < wr.heap.size) ∧ Hid (∀ j, j < K → wr.cell? ⟨pg, j, none⟩ = some (.int .i64 ((ps.getD j 0 : Nat) : Int)))) (fun i _ => K - (intOf i).toNat)
  case atStart => exact ⟨0, Nat.zero_le _, rfl, HI2, HPGL, HPG2⟩
  case round =>
    obtain ⟨k, hk, rfl, HI, HLP, HPG⟩ := hrel
    by_cases hlt : k < K
    · obtain ⟨p, hp⟩ : ∃ p, p = ps.getD k 0 := ⟨_, rfl⟩
      have hkp : k < ps.length := by rw [HPL.out]; exact hlt
      have hpe : p = ps[k] := by rw [hp, List.getD_eq_getElem?_getD, List.getElem?_eq_getElem hkp]; rfl
      have hp8 : p < 8 * bits.length := by rw [hpe]; exact HPLT.out _ (List.getElem_mem _)
      have htk : ps.take (k + 1) = ps.take k ++ [p] := by rw [hpe]; exact List.take_succ_eq_append_getElem hkp
      obtain ⟨l, hl⟩ : ∃ l, l = addAll bits (ps.take k) := ⟨_, rfl⟩
      have hll : l.length = bits.length := by rw [hl]; exact addAll_length _ _
      rw [← hl] at HI
      have hnext : addAll bits (ps.take (k + 1)) = addB l p := by rw [htk, addAll_snoc, ← hl, addB_set]
      have LY := lt_of_heap HI.out.cell
      have LP := HLP.out
      obtain ⟨q, hq⟩ : ∃ q, q = bitB l p := ⟨_, rfl⟩
      have bo : ∀ w', InB wr.heap.size wr w' → Calls Tryd.prog 15 #[.agg #[.slice (some ⟨Z, 0, none⟩) bits.length c4, .int .i64 (K : Int)], .int .i64 (p : Int)] w' fun e w'' => e = .returned (.bool q) ∧ InB wr.heap.size wr w'' := fun w' h => InB.call h (Nat.le_refl _) (by
        have := BitOf_calls l (by omega) p (by omega) (K : Int) (some ⟨Z, 0, none⟩) c4 _ w' ((Rd.of_own HI.out.own).below h)
        rw [hll] at this
        rw [hq]; exact this)
      have HBO := Lib.hid bo
      have FY := Lib.hid (show ∀ w', InB wr.heap.size wr w' → (loadVar 24 ⟨Y, 0, none⟩).run Tryd.prog w' = .ok (.agg #[.slice (some ⟨Z, 0, none⟩) bits.length c4, .int .i64 (K : Int)]) w' from fun w' h => by
        have g := (Below.block h Y LY).trans HI.out.cell
        exact load_sv (by rw [cell_of_row _ _ _ _ _ _ g]; rfl) (by rw [cell_of_row _ _ _ _ _ _ g]; rfl) rfl rfl rfl)
      have FP := Lib.hid (show ∀ w', InB wr.heap.size wr w' → w'.cell? ⟨pg, k, none⟩ = some (.int .i64 (p : Int)) from fun w' h => (Below.cell h (p := ⟨pg, k, none⟩) LP).trans (by rw [hp]; exact HPG.out k hlt))
      have k0 : (0 : Int) ≤ (k : Int) := by omega
      have k1 : (k : Int) < (K : Int) := by omega
      have HPE := Lib.hid hp
      have HP8 := Lib.hid hp8
      have HLL := Lib.hid hll
      have HNX := Lib.hid hnext
      have HQ := Lib.hid hq
      clear hp hpe hp8 htk hl hll hnext hq bo LY LP hkp
      go_upto_region 6 with fail
      have hex := inB_ex wr.heap.size wr
      refine wp_region_inB wr.heap.size (by kernel_rfl) (by kernel_rfl) ?_
      repeat (first
        | (with_reducible refine quiet_cell1 rfl (.tmp 5) rfl ⟨Y, 0, none⟩ (by kernel_rfl) (.agg #[.slice (some ⟨Z, 0, none⟩) bits.length c4, .int .i64 (K : Int)]) FY.out ?_ (by kernel_rfl); simp only [Act.put, List.setIfInBounds_toArray, List.set_cons_zero, List.set_cons_succ])
        | (with_reducible refine quiet_int rfl (.tmp 29) rfl ⟨pg, k, none⟩ (by kernel_rfl) (p : Int) FP.out ?_ (by kernel_rfl); simp only [Act.put, List.setIfInBounds_toArray, List.set_cons_zero, List.set_cons_succ])
        | go_big_quiet_step ((first | (intro hw'; exact HBO.out _ hw') | (intro _; rfl))))
      refine wpQuiet_nil ?_
      intro wZ hwZ
      have HIZ := Lib.hid (HI.out.below hwZ)
      have HPGZ : Hid (∀ j, j < K → wZ.cell? ⟨pg, j, none⟩ = some (.int .i64 ((ps.getD j 0 : Nat) : Int))) := Lib.hid (fun j hj => by
        have h := HPG.out j hj
        have LP := HLP.out
        exact (Below.cell hwZ (p := ⟨pg, j, none⟩) LP).trans h)
      have HLPZ := Lib.hid (Nat.lt_of_lt_of_le HLP.out (Below.size hwZ))
      clear hwZ hex FY FP HBO HI HPG HLP
      cases q with
      | true =>
        have HN2 := Lib.hid (show addAll bits (ps.take (k + 1)) = l by rw [HNX.out]; unfold addB; rw [if_pos HQ.out.symm])
        go_wp2_with fail
        go_roundw
        case rel => exact ⟨k + 1, hlt, by go_num, by rw [HN2.out]; exact HIZ, HLPZ, HPGZ⟩
        case measure => simp [intOf]; omega
      | false =>
        have ck := HPGZ.out k hlt
        rw [← HPE.out] at ck
        have rm : ((p : Int).tmod 8) = ((p % 8 : Nat) : Int) := by rw [Int.tmod_eq_emod_of_nonneg (by omega)]; omega
        have rm2 : ((p : Int) % 8) = ((p % 8 : Nat) : Int) := by omega
        obtain ⟨r, hr⟩ : ∃ r, r = p % 8 := ⟨_, rfl⟩
        rw [← hr] at rm rm2
        have hr8 : r < 8 := by omega
        have HRR := Lib.hid hr
        clear hr
        go_wp2_with fail
        go_loop [8, 9] (fun x t => ∃ m X : Nat, m ≤ r ∧ X = 2 ^ m ∧ x = .int .i64 (X : Int) ∧ t = .int .i64 (m : Int)) (fun _ t => r - (intOf t).toNat)
        case atStart => exact ⟨0, 1, Nat.zero_le _, rfl, rfl, rfl⟩
        case round =>
          obtain ⟨m, X, hm, hX, rfl, rfl⟩ := hrel
          have hX8 : X ≤ 128 := by
            rw [hX]
            exact Nat.pow_le_pow_right (n := 2) (by omega) (show m ≤ 7 by omega)
          by_cases hmr : m < r
          · have z1 : decide ((m : Int) < (r : Int)) = true := decide_eq_true (by omega)
            have z2 : decide (m < r) = true := decide_eq_true hmr
            have e2 : IntKind.i64.wrap (2 * (X : Int)) = ((2 * X : Nat) : Int) := by rw [IntWalk.i64_in _ (by omega)]; omega
            have HX := Lib.hid (show 2 * X = 2 ^ (m + 1) by rw [hX, Nat.pow_succ]; omega)
            clear hX
            go_wp2_with fail
            go_round
            case rel => exact ⟨m + 1, 2 * X, hmr, HX.out, by simp, by go_num⟩
            case measure => simp [intOf]; omega
          · obtain rfl : m = r := by omega
            have z1 : decide ((m : Int) < (m : Int)) = false := decide_eq_false (by omega)
            obtain ⟨g, hg⟩ : ∃ g, g = p / 8 := ⟨_, rfl⟩
            have hgl : g < bits.length := by have := HP8.out; omega
            have qd : ((p : Int).tdiv 8) = (g : Int) := by rw [Int.tdiv_eq_ediv_of_nonneg (by omega)]; omega
            have qd2 : ((p : Int) / 8) = (g : Int) := by omega
            obtain ⟨x, hx⟩ : ∃ x : UInt8, x = l.getD g 0 := ⟨_, rfl⟩
            have hgl2 : g < l.length := by rw [HLL.out]; exact hgl
            have hxe : x = l[g] := by rw [hx, List.getD_eq_getElem?_getD, List.getElem?_eq_getElem hgl2]; rfl
            obtain ⟨cz, fz⟩ := own_bget HIZ.out.own (k := g) hgl2
            rw [← hxe] at cz
            have hroom : x.toNat + X < 256 := by
              have := bit_room l p HQ.out.symm
              rw [← hg, ← hx] at this
              rw [hX, HRR.out]; exact this
            have cy : wZ.cell? ⟨Y, 0, none⟩ = some (.slice (some ⟨Z, 0, none⟩) bits.length c4) := by rw [cell_of_row _ _ _ _ _ _ HIZ.out.cell]; rfl
            have w7 : IntKind.i64.wrap (g : Int) = (g : Int) := IntWalk.i64_in _ (by omega)
            have w8 : IntKind.u8.wrap (X : Int) = (X : Int) := IntWalk.u8_in _ (by omega)
            have w9 : IntKind.u8.wrap ((x.toNat : Int) + (X : Int)) = ((UInt8.ofNat (x.toNat + X)).toNat : Int) := by
              rw [IntWalk.u8_in _ (by omega), UInt8.toNat_ofNat_of_lt' (by exact hroom)]; omega
            have HN2 := Lib.hid (show addAll bits (ps.take (k + 1)) = l.set g (UInt8.ofNat (x.toNat + X)) by
              rw [HNX.out]; unfold addB
              rw [if_neg (by rw [← HQ.out]; decide), ← hg, ← hx, hX, HRR.out])
            have hS9 := HIZ.out.set g (UInt8.ofNat (x.toNat + X))
            rw [← HN2.out] at hS9
            have HS9 := Lib.hid hS9
            have HPG9 : Hid (∀ j, j < K → (wZ.setCell ⟨Z, g, none⟩ (.int .u8 ((UInt8.ofNat (x.toNat + X)).toNat : Int))).cell? ⟨pg, j, none⟩ = some (.int .i64 ((ps.getD j 0 : Nat) : Int))) := Lib.hid (fun j hj => by
              rw [cell_setFar (by show pg ≠ Z; exact HPZ.out.symm)]; exact HPGZ.out j hj)
            have g0 : (0 : Int) ≤ (g : Int) := by omega
            have g1 : (g : Int) < (bits.length : Int) := by omega
            clear hX hx hxe hg hroom hS9
            have HLP9 := Lib.hid (show pg < (wZ.setCell ⟨Z, g, none⟩ (.int .u8 ((UInt8.ofNat (x.toNat + X)).toNat : Int))).heap.size by simpa using HLPZ.out)
            obtain ⟨V9, hV9⟩ : ∃ V9, V9 = ((UInt8.ofNat (x.toNat + X)).toNat : Int) := ⟨_, rfl⟩
            rw [← hV9] at w9 HS9 HPG9 HLP9
            clear hV9
            go_wp2_with fail
            go_still_tail 13, (by kernel_rfl)
            change wpList _ _ _ _ _ wZ.drew
            obtain ⟨wQ, hwQ⟩ : ∃ z, z = wZ.drew := ⟨_, rfl⟩
            have bQ : Below wZ.heap.size wZ wQ := by rw [hwQ]; exact (Below.refl _ _).drew
            have czq : wQ.cell? ⟨Z, g, none⟩ = some (.int .u8 (x.toNat : Int)) := by rw [hwQ]; exact cz
            have fzq : wQ.frozen? ⟨Z, g, none⟩ = false := by rw [hwQ]; exact fz
            rw [← hwQ]
            have HWQ := Lib.hid hwQ
            clear hwQ cz fz ck cy bQ
            go_wp2_with fail
            rw [HWQ.out]
            go_roundw
            case rel => exact ⟨k + 1, hlt, by go_num, Lib.hid (HS9.out.below (show Below _ _ (wZ.drew.setCell ⟨Z, g, none⟩ (.int .u8 V9)) from (Below.refl _ (wZ.setCell ⟨Z, g, none⟩ (.int .u8 V9))).drew)), HLP9, HPG9⟩
            case measure => simp [intOf]; omega
    · obtain rfl : k = K := by omega
      obtain ⟨wF, hwF⟩ : ∃ z, z = wr := ⟨_, rfl⟩
      rw [← hwF] at HI ⊢
      clear hwF HLP HPG
      have hfull : addAll bits (ps.take k) = addAll bits (placesOf bits.length k b) := by rw [List.take_of_length_le (by rw [HPL.out]; exact Nat.le_refl _), HPS.out]
      rw [hfull] at HI
      have cy0 : wF.cell? ⟨Y, 0, none⟩ = some (.slice (some ⟨Z, 0, none⟩) bits.length c4) := by rw [cell_of_row _ _ _ _ _ _ HI.out.cell]; rfl
      have cy1 : wF.cell? ⟨Y, 1, none⟩ = some (.int .i64 (k : Int)) := by rw [cell_of_row _ _ _ _ _ _ HI.out.cell]; rfl
      have GE := Lib.hid ((HI.out.bel.block (H + 1) hH1).trans G1.out)
      have d1 : wF.cell? ⟨H + 1, 0, none⟩ = some (.slice none 0 0) := by rw [cell_of_row _ _ _ _ _ _ GE.out]; rfl
      have d2 : wF.cell? ⟨H + 1, 1, none⟩ = some (.int .i64 0) := by rw [cell_of_row _ _ _ _ _ _ GE.out]; rfl
      have f1 : wF.frozen? ⟨H + 1, 0, none⟩ = false := frozen_of_row _ _ _ _ _ GE.out
      have f2 : wF.frozen? ⟨H + 1, 1, none⟩ = false := frozen_of_row _ _ _ _ _ GE.out
      have hZH : Z ≠ H + 1 := by have := HI.out.hZ; omega
      clear hfull
      go_wp2_with fail
      have g1 : ((wF.setCell ⟨H + 1, 0, none⟩ (.slice (some ⟨Z, 0, none⟩) bits.length c4)).setCell ⟨H + 1, 1, none⟩ (.int .i64 (k : Int))).heap[H + 1]? = some (.cells #[.slice (some ⟨Z, 0, none⟩) bits.length c4, .int .i64 (k : Int)] 24 (0, 0)) := heap_set_one (i := 1) (heap_set_one (i := 0) GE.out _) _
      have m1 : ((wF.setCell ⟨H + 1, 0, none⟩ (.slice (some ⟨Z, 0, none⟩) bits.length c4)).setCell ⟨H + 1, 1, none⟩ (.int .i64 (k : Int))).cell? ⟨H + 1, 0, none⟩ = some (.slice (some ⟨Z, 0, none⟩) bits.length c4) := by rw [cell_of_row _ _ _ _ _ _ g1]; rfl
      have m2 : ((wF.setCell ⟨H + 1, 0, none⟩ (.slice (some ⟨Z, 0, none⟩) bits.length c4)).setCell ⟨H + 1, 1, none⟩ (.int .i64 (k : Int))).cell? ⟨H + 1, 1, none⟩ = some (.int .i64 (k : Int)) := by rw [cell_of_row _ _ _ _ _ _ g1]; rfl
      try simp only [Exit.inBlock, Exit.then]
      refine bodyPost_ret (v := .agg #[.slice (some ⟨Z, 0, none⟩) bits.length c4, .int .i64 (k : Int)]) (by simp [results, Tryd.f13, go_sem, m1, m2]) rfl ?_
      exact ⟨some ⟨Z, 0, none⟩, c4, _, rfl, Rd.of_own (own_far (own_far HI.out.own _ _ (by show Z ≠ H + 1; exact hZH)) _ _ (by show Z ≠ H + 1; exact hZH)), by rw [← HH.out]; exact ((B1.out.trans (HI.out.bel.mono (by omega))).setCell (p := ⟨H + 1, 0, none⟩) (by show H ≤ H + 1; omega) _).setCell (p := ⟨H + 1, 1, none⟩) (by show H ≤ H + 1; omega) _⟩
end Go.Proofs.YteikbbdkpeecaaaDoor
