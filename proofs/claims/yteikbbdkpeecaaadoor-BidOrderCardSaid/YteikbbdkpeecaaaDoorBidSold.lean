/- Walk: the laws' sold: a sale of amounts. -/
import Derived.Test.YteikbbdkpeecaaaDoorBidAward
import Derived.Lib.OwnKind
namespace Go.Proofs.YteikbbdkpeecaaaDoor
open Go.RowKit
set_option linter.unusedVariables false
set_option linter.unusedSimpArgs false
open Go.Shelf Go.Lib Go.Sort
section
variable {P : Program} {w : World} {ops : Array Oper} {rest : List Oper} {o : Oper} {a : Act} {Q : Exit → Act → World → Prop}
/-- 'append' onto an owned slice: blocks of other types are left ams they are -/
theorem appRdg (T e : TypeId) (z : Value) (size bytes : Nat) (ht : P.underlying T = some (.slice e)) (hinfo : (P.info? e).map (fun i => (i.zero, i.size, i.bytes)) = some (some z, size, bytes)) (hzs : z.cells.size = size) (hsz : 0 < size)
    (hgd : o.guard = none) (s x : Operand) (ho : o.op = .call { callee := .builtin .append, args := #[s, x], argTypes := #[T, T] })
    (base : Nat) (v : Value) (n : Nat) (xs : List Value) (hs : a.eval s = v) (hown : w.ownsRow base e size v n xs) (ad : Addr) (m c : Nat) (news : List Value) (hx : a.eval x = .slice (some ad) m c) (es : TypeId)
    (hu : Rd w (some ad) es news) (hl : news.length = m * size) (h1 : ∀ u ∈ news, u.oneCell' = true) (hm : 0 < m) (hn : n + m ≤ 140737488355328) (hnb : (n + m) * bytes ≤ 140737488355328) (hbase : base ≤ w.heap.size)
    (h : ∀ av cap w', w'.ownsRow base e size (.slice av (n + m) cap) (n + m) (xs ++ news) → Below base w w' → (∀ (b : Nat) (cs : Array Value) (U : TypeId) (fr : Nat × Nat), w.heap[b]? = some (.cells cs U fr) → U ≠ e → w'.heap[b]? = some (.cells cs U fr)) → wpList P ops Q rest (a.put o.dst (.slice av (n + m) cap)) w') : wpList P ops Q (o :: rest) a w := by
  refine appRdw T e z size bytes ht hinfo hzs hsz hgd s x ho base v n xs hs hown ad m c news hx es hu hl h1 hm hn hnb hbase _ rfl ?_
  intro g cap w' hown' hgrow hat hlt
  refine h _ _ _ hown' (below_grow (Below.refl base w) hown hgrow hbase) fun b cs U fr hb hT => ?_
  refine (hgrow.block b (lt_of_heap hb) fun hv => ?_).trans hb
  obtain ⟨c2, fz, h2⟩ := Lib.ownsRow_kind hown b hv.symm
  rw [hb] at h2
  simp only [Option.some.injEq, Obj.cells.injEq] at h2
  exact hT h2.2.1
end
theorem own_kept {w w' : World} {base : Nat} {e : TypeId} {size : Nat} {v : Value} {n : Nat} {xs : List Value} (h : w.ownsRow base e size v n xs) (hb : ∀ (g : Nat) (cs : Array Value) (fr : Nat × Nat), w.heap[g]? = some (.cells cs e fr) → w'.heap[g]? = some (.cells cs e fr)) : w'.ownsRow base e size v n xs :=
  ⟨h.1, h.2.imp id fun ⟨g, cap, cur, hv, hbg, hg, r⟩ => ⟨g, cap, cur, hv, hbg, hb g cur (0, 0) hg, r⟩⟩
theorem built_bid (k m : Int) : Tryd.prog.built 59 [(0, .int .i64 k), (1, .int .i64 m)] = some (bV k m nz) := by kernel_rfl
theorem wpl_bidKM {w : World} {ops : Array Oper} {rest : List Oper} {o : Oper} {a : Act} {Q : Exit → Act → World → Prop} (hg : o.guard = none) (x y : Operand) (ho : o.op = .build 59 #[(0, x), (1, y)]) (k m : Int) (hx : a.eval x = .int .i64 k) (hy : a.eval y = .int .i64 m) (S : List UInt8) (hS : S = nz) (h : wpList Tryd.prog ops Q rest (a.put o.dst (.agg (bV k m S))) w) : wpList Tryd.prog ops Q (o :: rest) a w := by
  subst hS
  refine wpList_plain hg fun _ hK => ?_
  unfold Oper.wp execOp
  simp only [ho, Sem.run_bind]
  have := run_build (P := Tryd.prog) w 59 #[(0, .int .i64 k), (1, .int .i64 m)] (bV k m nz) (built_bid k m)
  simp only [List.map_toArray, List.map_cons, List.map_nil, hx, hy, this, Result.andThen_ok]
  exact hK _ _ h
theorem bds_snoc (s : List UInt8) (ams : List Int) (a : Int) : bdsOf s (ams ++ [a]) = bdsOf s ams ++ [bdOf s ams.length a] := by
  unfold bdsOf; rw [List.mapIdx_concat]
def digsB (ams : List Int) : List (List UInt8) := (bdsOf nz ams).map bidD
theorem digs_snoc (ams : List Int) (a : Int) : digsB (ams ++ [a]) = digsB ams ++ [bidD (bdOf nz ams.length a)] := by
  unfold digsB; rw [bds_snoc, List.map_append]; rfl
theorem digs_len (ams : List Int) : ∀ d ∈ digsB ams, d.length = 32 := by
  intro d hd
  obtain ⟨b, _, rfl⟩ := List.mem_map.1 hd
  exact bidD_length b
theorem digs_length (ams : List Int) : (digsB ams).length = ams.length := by unfold digsB; rw [List.length_map, bds_length]
theorem bds_ok (ams : List Int) (h : ∀ x ∈ ams, 0 ≤ x ∧ x ≤ 9223372036854775807) (h40 : ams.length ≤ 40) : ∀ b ∈ bdsOf nz ams, BdW b := by
  intro b hb
  obtain ⟨k, hk, rfl⟩ := mem_bds.1 hb
  have := h _ (List.getElem_mem hk)
  exact ⟨rfl, ⟨by simp only [bdOf]; omega, by simp only [bdOf]; omega⟩, by simp only [bdOf]; omega, by simp only [bdOf]; omega⟩
theorem bds_has (ams : List Int) (h : ∀ x ∈ ams, 0 ≤ x ∧ x ≤ 9223372036854775807) (h40 : ams.length ≤ 40) : ∀ k, (hk : k < ams.length) → hasV (digsB ams) (bdOf nz k ams[k]) = true := by
  intro k hk
  have := h _ (List.getElem_mem hk)
  rw [hasV_at (b := bdOf nz k ams[k]) (k := k) ⟨⟨by simp only [bdOf]; omega, by simp only [bdOf]; omega⟩, by simp only [bdOf]; omega⟩ rfl (by rw [digs_length]; exact hk)]
  have e : (digsB ams)[k]'(by rw [digs_length]; exact hk) = bidD (bdOf nz k ams[k]) := by
    unfold digsB
    rw [List.getElem_map, bds_get]
  rw [e]; simp
theorem sold_award (ams : List Int) (h : ∀ x ∈ ams, 0 ≤ x ∧ x ≤ 9223372036854775807) (h40 : ams.length ≤ 40) {l x p : Int} (ha : AwardIs (cntB (hasV (digsB ams)) (bdsOf nz ams)) l x p) : SoldIs nz ams l x p :=
  award_mem (fun b => cnt_bds (bds_has ams h h40) b) ha
theorem info_digz3 : (Tryd.prog.info? 55).map (fun i => (i.zero, i.size, i.bytes)) = some (some (.agg (dV nz)), 32, 32) := by rw [← zdig]; exact info_dig
theorem Rd.dig1 (w : World) (D : List UInt8) : Rd (w.alloc (.cells (dV D) 55)) (some ⟨w.heap.size, 0, none⟩) 55 (D.map vB) := Rd.box w D _
set_option maxRecDepth 20000 in
set_option maxHeartbeats 8000000 in
theorem Sold_calls (ams : List Int) (hr0 : ∀ x ∈ ams, -9223372036854775808 ≤ x ∧ x ≤ 9223372036854775807) (h40 : ams.length ≤ 40) (a : Option Addr) (c e : Nat) (l : Int) (w : World) (hr : Rd w a e (ams.map vI)) (hro : RoundsAt w) :
    Calls Tryd.prog 20 #[.slice a ams.length c, .int .i64 l] w fun e w' =>
      (¬ ((∀ x ∈ ams, 0 ≤ x) ∧ 0 ≤ l) → e = .returned (.tuple #[.int .i64 0, .int .i64 0, .bool false])) ∧
      (((∀ x ∈ ams, 0 ≤ x) ∧ 0 ≤ l) → ∃ x p : Int, e = .returned (.tuple #[.int .i64 x, .int .i64 p, .bool true]) ∧ SoldIs nz ams l x p) ∧ Below w.heap.size w w' := by
  obtain ⟨Z, hZ⟩ : ∃ Z, Z = nz := ⟨_, rfl⟩
  have HZ := Lib.hid hZ
  have ZL := Lib.hid (show Z.length = 32 by rw [hZ]; rfl)
  have HR0 := Lib.hid hr0
  have HR := Lib.hid hr
  have RO := Lib.hid hro
  have H40 := Lib.hid h40
  clear hr0 hr hro hZ
  go_enter Tryd.func20, Tryd.ntmps20
  go_wp2_with fail
  go_loopw [7, 8, 9] (fun q s j wr => ∃ (k : Nat) (av : Option Addr) (cv : Nat) (bv : Option Addr) (cb : Nat), k ≤ ams.length ∧ j = .int .i64 k ∧ q = .slice av k cv ∧ s = .slice bv k cb ∧ (∀ x ∈ ams.take k, 0 ≤ x) ∧ wr.ownsRow w.heap.size 55 32 (.slice av k cv) k ((digsB (ams.take k)).flatten.map vB) ∧ wr.ownsRow w.heap.size 59 34 (.slice bv k cb) k (cellsP (bdsOf nz (ams.take k))) ∧ Below w.heap.size w wr) (fun _ _ j _ => ams.length - (intOf j).toNat)
  case atStart => exact ⟨0, none, 0, none, 0, Nat.zero_le _, rfl, rfl, rfl, (fun x h => by cases h), World.ownsRow_nil _ _ _ _, World.ownsRow_nil _ _ _ _, Below.refl _ _⟩
  case round =>
    obtain ⟨k, av, cv, bv, cb, hk, rfl, rfl, rfl, hpos, hov, hob, hbel⟩ := hrel
    have k40 : k ≤ 40 := by omega
    by_cases hlt : k < ams.length
    · have hge : ∃ x, x = ams[k] := ⟨_, rfl⟩
      obtain ⟨E, hE⟩ := hge
      have hcell := (HR.out.below hbel).cell (k := k) (by rw [List.length_map]; exact hlt)
      obtain ⟨pb, po, hpa, hpl, hck⟩ := hcell
      subst hpa
      have ck : wr.cell? ⟨pb, po + k, none⟩ = some (.int .i64 E) := by
        have := hck k (by rw [List.length_map]; exact hlt)
        rw [this, List.getElem_map, hE]; rfl
      have hEr := HR0.out _ (List.getElem_mem hlt)
      rw [← hE] at hEr
      obtain ⟨bE, hbE⟩ : ∃ b, b = bdOf Z k E := ⟨_, rfl⟩
      have hbW : BdW bE := by rw [hbE]; exact ⟨ZL.out, ⟨by simp only [bdOf]; omega, by simp only [bdOf]; omega⟩, hEr⟩
      have hbV : bV (k : Int) E Z = bV bE.who bE.amount bE.salt := by rw [hbE]; rfl
      obtain ⟨X, hX⟩ : ∃ X, X = wr.heap.size := ⟨_, rfl⟩
      obtain ⟨w1, hw1⟩ : ∃ z, z = wr.alloc (.cells (bV bE.who bE.amount bE.salt) 59) := ⟨_, rfl⟩
      have b1 : Below wr.heap.size wr w1 := by rw [hw1]; exact (Below.refl _ _).alloc (Nat.le_refl _) _
      have gx : w1.heap[X]? = some (.cells (bV bE.who bE.amount bE.salt) 59 (0, 0)) := by rw [hw1, hX]; exact heap_alloc_new _ _
      have VC := Vow_calls bE hbW w1 ((RO.out.at_ hbel).at_ b1)
      have htake : ams.take (k + 1) = ams.take k ++ [ams[k]] := List.take_succ_eq_append_getElem hlt
      have hbE2 : bE = bdOf nz (ams.take k).length ams[k] := by rw [hbE, HZ.out, ← hE, List.length_take, Nat.min_eq_left hk]
      have HVC := Lib.hid VC
      have HBE := Lib.hid hbE2
      have HBZ := Lib.hid hbE
      have HBW := Lib.hid hbW
      have HBV := Lib.hid hbV
      have HX := Lib.hid hX
      have HW1 := Lib.hid hw1
      have GX := Lib.hid gx
      have LX := Lib.hid (lt_of_heap gx)
      have B1 := Lib.hid b1
      have HOV := Lib.hid hov
      have HOB := Lib.hid hob
      have HBL := Lib.hid hbel
      have HPOS := Lib.hid hpos
      have HE := Lib.hid hE
      have HTK := Lib.hid htake
      have k0 : (0 : Int) ≤ (k : Int) := by omega
      have k1 : (k : Int) < (ams.length : Int) := by omega
      clear VC hbE hbE2 hbW hbV hX hw1 gx b1 hov hob hbel hpl hck hpos hE htake
      go_wp2_with (first
        | (refine wpl_bidKM rfl (.tmp 22) (.tmp 26) rfl (k : Int) E (by rfl) (by rfl) Z HZ.out ?_; simp only [Act.put, List.setIfInBounds_toArray, List.set_cons_zero, List.set_cons_succ]; rw [HBV.out])
        | ((refine st_bidNew rfl (.tmp 10) (.tmp 27) rfl bE HBW.out.1 (by rfl) _ _ (by rfl) (by rfl) ?_); rw [← HX.out, ← HW1.out])
        | ((refine ld_bidG rfl (.tmp 10) rfl X 0 (by rfl) bE HBW.out.1 (range_bid GX.out) ?_); simp only [Act.put, List.setIfInBounds_toArray, List.set_cons_zero, List.set_cons_succ]))
      refine HVC.out.mono ?_
      rintro e w2 ⟨he, hb2⟩
      have B2 := Lib.hid (B1.out.trans (hb2.mono B1.out.size))
      have GX2 := Lib.hid ((hb2.block _ LX.out).trans GX.out)
      have LX2 := Lib.hid (Nat.lt_of_lt_of_le LX.out hb2.size)
      clear hb2 HVC ck
      obtain ⟨D, hD⟩ : ∃ D, D = if BdOk bE then bidD bE else nz := ⟨_, rfl⟩
      have DL := Lib.hid (show D.length = 32 by rw [hD]; split; exact bidD_length _; rfl)
      obtain ⟨Y, hY⟩ : ∃ Y, Y = w2.heap.size := ⟨_, rfl⟩
      obtain ⟨w3, hw3⟩ : ∃ z, z = w2.alloc (.cells (dV D) 55) := ⟨_, rfl⟩
      have b3 : Below w2.heap.size w2 w3 := by rw [hw3]; exact (Below.refl _ _).alloc (Nat.le_refl _) _
      have GY := Lib.hid (show w3.heap[Y]? = some (.cells (dV D) 55 (0, 0)) by rw [hw3, hY]; exact heap_alloc_new _ _)
      have LY := Lib.hid (lt_of_heap GY.out)
      have B3 := Lib.hid (B2.out.trans (b3.mono B2.out.size))
      have LX3 := Lib.hid (Nat.lt_of_lt_of_le LX2.out b3.size)
      have GX3 := Lib.hid ((b3.block _ LX2.out).trans GX2.out)
      have BL3 := Lib.hid (HBL.out.trans (B3.out.mono HBL.out.size))
      have OV3 := Lib.hid (own_below HOV.out B3.out)
      have OB3 := Lib.hid (own_below HOB.out B3.out)
      have HY := Lib.hid hY
      have HW3 := Lib.hid hw3
      clear hY hw3 b3
      by_cases hok : BdOk bE
      · rw [if_pos hok] at he hD
        rw [← hD] at he
        subst he
        have HD := Lib.hid hD
        have hE0 : 0 ≤ ams[k] := by
          have := hok.2
          rw [HBE.out] at this
          exact this
        have HPOS2 := Lib.hid (show ∀ x ∈ ams.take (k + 1), 0 ≤ x from fun x hx => by
          rw [HTK.out] at hx
          rcases List.mem_append.1 hx with h | h
          · exact HPOS.out x h
          · rw [List.mem_singleton.1 h]; exact hE0)
        have hdg : (digsB (ams.take k)).flatten.map vB ++ D.map vB = (digsB (ams.take (k + 1))).flatten.map vB := by
          rw [HTK.out, digs_snoc, List.flatten_append, List.map_append, ← HBE.out, HD.out]; simp
        have hbd : cellsP (bdsOf nz (ams.take k)) ++ cellsP [bE] = cellsP (bdsOf nz (ams.take (k + 1))) := by
          rw [HTK.out, bds_snoc, cellsP_append, ← HBE.out]
        have HDG := Lib.hid hdg
        have HBD := Lib.hid hbd
        have hs3 : w.heap.size ≤ w3.heap.size := BL3.out.size
        clear hok hD hE0 hdg hbd
        go_upto_region 11 with (first
          | ((refine st_new rfl (.tmp 11) (.tmp 31) rfl D DL.out (by rfl) _ _ (by rfl) (by rfl) ?_); rw [← HY.out, ← HW3.out])
          | ((refine ld_digG rfl (.tmp 11) rfl Y 0 (by rfl) D DL.out (range_of_row GY.out) ?_); simp only [Act.put, List.setIfInBounds_toArray, List.set_cons_zero, List.set_cons_succ])
          | ((refine wpl_build1 48 55 _ 32 32 Tryd.underlying48 info_digz3 (by omega) (by omega) rfl (.tmp 36) rfl (dV D) (by rfl) (dV_size DL.out) ?_); simp only [Act.put, List.setIfInBounds_toArray, List.set_cons_zero, List.set_cons_succ])
          | (at_builtin; refine appRdg 48 55 (.agg (dV nz)) 32 32 Tryd.underlying48 info_digz3 (dV_size rfl) (by omega) rfl (.tmp 35) (.tmp 37) (by rfl) w.heap.size _ k _ (by rfl) (OV3.out.alloc _) ⟨w3.heap.size, 0, none⟩ 1 1 (D.map vB) (by rfl) _ (Rd.dig1 w3 D) (by rw [List.length_map, DL.out]) (one_bytes _) (by omega) (by omega) (by omega) (by rw [World.size_alloc]; omega) ?_; intro av9 cp9 w9 hown9 hb9 hk9; rw [HDG.out] at hown9))
        have OV9 := Lib.hid hown9
        have BL9 := Lib.hid (BL3.out.trans (Below.trans ((Below.refl _ w3).alloc hs3 _) hb9))
        have OB9 := Lib.hid (own_kept (OB3.out.alloc (.cells (dV D) 55)) (fun g cs fr hg => hk9 g cs _ fr hg (by decide)))
        have GX9 := Lib.hid (hk9 X _ _ _ ((((Below.refl _ w3).alloc (Nat.le_refl _) (.cells (dV D) 55)).block _ LX3.out).trans GX3.out) (by decide))
        have hs9 : w.heap.size ≤ w9.heap.size := BL9.out.size
        clear hown9 hb9 hk9
        go_wp2_with (first
          | ((refine ld_bidG rfl (.tmp 10) rfl X 0 (by rfl) bE HBW.out.1 (range_bid GX9.out) ?_); simp only [Act.put, List.setIfInBounds_toArray, List.set_cons_zero, List.set_cons_succ])
          | ((refine wpl_build1 49 59 _ 34 48 Tryd.underlying49 info_bidz (by omega) (by omega) rfl (.tmp 40) rfl (bV bE.who bE.amount bE.salt) (by rfl) (bVs HBW.out.1) ?_); simp only [Act.put, List.setIfInBounds_toArray, List.set_cons_zero, List.set_cons_succ])
          | (at_builtin; refine appRdg 49 59 (.agg (bV 0 0 nz)) 34 48 Tryd.underlying49 info_bidz (bV_size 0 0 nz rfl) (by omega) rfl (.tmp 39) (.tmp 41) (by rfl) w.heap.size _ k _ (by rfl) (OB9.out.alloc _) ⟨w9.heap.size, 0, none⟩ 1 1 (cellsP [bE]) (by rfl) _ (Rd.bid1 w9 bE) (by rw [cellsP_one, bL_length HBW.out.1]) (cellsP_one_all _) (by omega) (by omega) (by omega) (by rw [World.size_alloc]; omega) ?_; intro av8 cp8 w8 hown8 hb8 hk8; rw [HBD.out] at hown8; have OB8 := Lib.hid hown8; have BL8 := Lib.hid (BL9.out.trans (Below.trans ((Below.refl _ w9).alloc hs9 _) hb8)); have OV8 := Lib.hid (own_kept (OV9.out.alloc (.cells (bV bE.who bE.amount bE.salt) 59)) (fun g cs fr hg => hk8 g cs _ fr hg (by decide))); clear hown8 hb8 hk8))
        go_roundw
        case rel => exact ⟨k + 1, av9, cp9, av8, cp8, hlt, by go_num, rfl, rfl, HPOS2.out, OV8.out, OB8.out, BL8.out⟩
        case measure => simp [intOf]; omega
      · rw [if_neg hok] at he hD
        rw [← hD] at he
        subst he
        have hE0 : ¬ 0 ≤ ams[k] := fun h => hok (by
          rw [HBE.out]
          have hl : (ams.take k).length = k := by rw [List.length_take, Nat.min_eq_left hk]
          exact ⟨⟨by simp only [bdOf]; omega, by simp only [bdOf]; omega⟩, h⟩)
        have HN := Lib.hid (show ¬ ((∀ x ∈ ams, 0 ≤ x) ∧ 0 ≤ l) from fun h => hE0 (h.1 _ (List.getElem_mem hlt)))
        clear hok hD hE0
        go_wp2_with (first
          | ((refine st_new rfl (.tmp 11) (.tmp 31) rfl D DL.out (by rfl) _ _ (by rfl) (by rfl) ?_); rw [← HY.out, ← HW3.out]))
        go_ret3
        exact ⟨fun _ => rfl, fun h => absurd h HN.out, BL3.out⟩
    · obtain rfl : k = ams.length := by omega
      rw [List.take_of_length_le (Nat.le_refl _)] at hpos hov hob
      have hall : ∀ x ∈ ams, 0 ≤ x ∧ x ≤ 9223372036854775807 := fun x hx => ⟨hpos x hx, (HR0.out x hx).2⟩
      have rv := Rd.of_own hov
      have rb := Rd.of_own hob
      have AC := Award_calls (digsB ams) (digs_len ams) (by rw [digs_length]; omega) av cv _ (bdsOf nz ams) (bds_ok ams hall H40.out) (by rw [bds_length]; omega) bv cb _ l wr rv rb (RO.out.at_ hbel)
      rw [digs_length, bds_length] at AC
      have HAC := Lib.hid AC
      have HALL := Lib.hid hall
      have HB := Lib.hid hbel
      clear AC hov hob hbel rv rb hall hpos hlt hk
      go_wp2_with fail
      refine HAC.out.mono ?_
      rintro e w5 ⟨h1, h2, h3, hb5⟩
      have HB5 := Lib.hid (HB.out.trans (hb5.mono HB.out.size))
      by_cases hneg : l < 0
      · have he := h1 hneg
        subst he
        have HN := Lib.hid (show ¬ ((∀ x ∈ ams, 0 ≤ x) ∧ 0 ≤ l) from fun h => by omega)
        clear h1 h2 h3 hb5 HAC hneg
        go_upto_region 13 with fail
        have hex := inB_ex w5.heap.size w5
        refine wp_region_inB w5.heap.size (by kernel_rfl) (by kernel_rfl) ?_
        repeat (first
          | go_big_quiet_step ((first | (intro _; rfl))))
        refine wpQuiet_nil ?_
        intro wZ hwZ
        have HB6 := Lib.hid (HB5.out.trans (Below.mono hwZ HB5.out.size))
        clear hwZ hex
        go_wp2_with fail
        go_ret3
        exact ⟨fun _ => rfl, fun h => absurd h HN.out, HB6.out⟩
      · obtain ⟨x, p, he, haw⟩ := h3 (by omega) (by omega) (by omega)
        subst he
        have HS := Lib.hid (sold_award ams HALL.out H40.out haw)
        have HY := Lib.hid (show (∀ x ∈ ams, 0 ≤ x) ∧ 0 ≤ l from ⟨fun x hx => (HALL.out x hx).1, by omega⟩)
        clear h1 h2 h3 hb5 HAC hneg haw
        go_upto_region 13 with fail
        have hex := inB_ex w5.heap.size w5
        refine wp_region_inB w5.heap.size (by kernel_rfl) (by kernel_rfl) ?_
        repeat (first
          | go_big_quiet_step ((first | (intro _; rfl))))
        refine wpQuiet_nil ?_
        intro wZ hwZ
        have HB6 := Lib.hid (HB5.out.trans (Below.mono hwZ HB5.out.size))
        clear hwZ hex
        go_wp2_with fail
        go_ret3
        exact ⟨fun h => absurd HY.out h, fun _ => ⟨x, p, rfl, HS.out⟩, HB6.out⟩
theorem fact_is {x p : Int} (h : SoldIs nz [3, 9, 7] 2 x p) : x = 1 ∧ p = 7 := by
  rcases sold_words h with ⟨h1, _⟩ | ⟨k, hk, rfl, h1, h2, h3, h4, h5⟩
  · have := h1 0 (by decide)
    simp at this
  · have hk3 : k < 3 := hk
    match k, hk3 with
    | 0, _ => have := (h4 1 (by decide) (by decide)).2; simp at this
    | 1, _ =>
      have g := (h4 2 (by decide) (by decide)).1
      simp at g
      rcases h5 with h5 | ⟨j, hj, hne, h5⟩
      · omega
      · have hj3 : j < 3 := hj
        match j, hj3, hne with
        | 0, _, _ => simp at h5; omega
        | 2, _, _ => simp at h5; exact ⟨rfl, by omega⟩
    | 2, _ => have := (h4 1 (by decide) (by decide)).2; simp at this
theorem Fact_calls (w : World) (hro : RoundsAt w) : Calls Tryd.prog 19 #[] w fun e w' => e = .returned (.bool true) ∧ Below w.heap.size w w' := by
  obtain ⟨w1, hw1⟩ : ∃ z, z = w.alloc (.cells #[.int .i64 3, .int .i64 9, .int .i64 7] 3) := ⟨_, rfl⟩
  have b1 : Below w.heap.size w w1 := by rw [hw1]; exact (Below.refl _ _).alloc (Nat.le_refl _) _
  have r1 : Rd w1 (some ⟨w.heap.size, 0, none⟩) 3 (([3, 9, 7] : List Int).map vI) := by rw [hw1]; exact Rd.new w _ _
  have SC := Sold_calls [3, 9, 7] (by decide) (by decide) (some ⟨w.heap.size, 0, none⟩) 3 _ 2 w1 r1 (hro.at_ b1)
  have HSC := Lib.hid SC
  have HW1 := Lib.hid hw1
  have B1 := Lib.hid b1
  clear SC hw1 b1 r1 hro
  go_enter Tryd.func19, Tryd.ntmps19
  go_wp2_with fail
  rw [← HW1.out]
  refine HSC.out.mono ?_
  rintro e w2 ⟨_, h2, hb2⟩
  obtain ⟨x, p, rfl, hs⟩ := h2 ⟨by decide, by decide⟩
  obtain ⟨rfl, rfl⟩ := fact_is hs
  have B2 := Lib.hid (B1.out.trans (hb2.mono B1.out.size))
  clear h2 hs hb2 HSC
  go_wp2_with fail
  go_ret
  exact ⟨rfl, B2.out⟩
/-- a sale, in one line -/
theorem Sold2_calls (ams : List Int) (hr0 : ∀ x ∈ ams, -9223372036854775808 ≤ x ∧ x ≤ 9223372036854775807) (h40 : ams.length ≤ 40) (a : Option Addr) (c e : Nat) (l : Int) (w : World) (hr : Rd w a e (ams.map vI)) (hro : RoundsAt w) :
    Calls Tryd.prog 20 #[.slice a ams.length c, .int .i64 l] w fun e w' => ∃ (x p : Int) (f : Bool), e = .returned (.tuple #[.int .i64 x, .int .i64 p, .bool f]) ∧ (f = true ↔ ((∀ x ∈ ams, 0 ≤ x) ∧ 0 ≤ l)) ∧ (f = true → SoldIs nz ams l x p) ∧ (0 ≤ p ∧ p ≤ 9223372036854775807) ∧ (-1 ≤ x ∧ x ≤ 9223372036854775807) ∧ Below w.heap.size w w' := by
  refine (Sold_calls ams hr0 h40 a c e l w hr hro).mono ?_
  rintro e w' ⟨h1, h2, hb⟩
  by_cases h : (∀ x ∈ ams, 0 ≤ x) ∧ 0 ≤ l
  · obtain ⟨x, p, rfl, hs⟩ := h2 h
    refine ⟨x, p, true, rfl, ⟨fun _ => h, fun _ => rfl⟩, fun _ => hs, ?_, ?_, hb⟩
    · rcases sold_words hs with ⟨_, _, rfl⟩ | ⟨k, hk, _, g1, g2, g3, _⟩
      · exact ⟨by omega, by omega⟩
      · have := hr0 _ (List.getElem_mem hk)
        exact ⟨by omega, by omega⟩
    · rcases sold_words hs with ⟨_, rfl, _⟩ | ⟨k, hk, rfl, _⟩
      · exact ⟨by omega, by omega⟩
      · exact ⟨by omega, by omega⟩
  · exact ⟨0, 0, false, h1 h, ⟨(fun h' => by cases h'), fun h' => absurd h' h⟩, (fun h' => by cases h'), ⟨by omega, by omega⟩, ⟨by omega, by omega⟩, hb⟩
theorem one_ints (l : List Int) : ∀ u ∈ l.map vI, u.oneCell' = true := by
  intro u hu
  obtain ⟨b, _, rfl⟩ := List.mem_map.1 hu
  rfl
/-- a copy of numbers with one of them set -/
theorem own_put {w : World} {base : Nat} {av : Option Addr} {n cap : Nat} {xs : List Int} (h : w.ownsRow base 3 1 (.slice av n cap) n (xs.map vI)) (hn : xs.length = n) {k : Nat} (hk : k < n) : ∃ g, av = some ⟨g, 0, none⟩ ∧ base ≤ g ∧ (∃ v, w.cell? ⟨g, k, none⟩ = some v) ∧ w.frozen? ⟨g, k, none⟩ = false ∧ ∀ y : Int, (w.setCell ⟨g, k, none⟩ (.int .i64 y)).ownsRow base 3 1 (.slice (some ⟨g, 0, none⟩) n cap) n ((xs.set k y).map vI) := by
  rcases h.2 with ⟨h1, _⟩ | ⟨g, c9, cur, hv, hbg, _⟩
  · simp only [Value.slice.injEq] at h1; omega
  · simp only [Value.slice.injEq] at hv
    obtain ⟨rfl, _, _⟩ := hv
    have g9 := own_cell h (k := k) (by rw [List.length_map]; omega)
    refine ⟨g, rfl, hbg, ⟨_, g9.1⟩, g9.2, fun y => ?_⟩
    have := own_set h k (.int .i64 y)
    rw [List.map_set]; exact this
end Go.Proofs.YteikbbdkpeecaaaDoor
