/- Walks: slices.DeleteFunc of entries, with what span.Look hands it. -/
import Derived.Test.YtpeomfehdccmmaaDoorTrieSort
import Derived.Test.YtpeomfehdccmmaaDoorTrieRoot
import Derived.Test.YtpeomfehdccmmaaDoorSpanLaw
import Derived.Shelf.SlicesQ.IndexFunc
import Derived.BigQuiet
namespace Go.Proofs.YtpeomfehdccmmaaDoor
open Go.RowKit
set_option linter.unusedVariables false
set_option linter.unusedSimpArgs false
open Go.Shelf Go.Lib Go.Sort
def Lay.idxF_ren : Go.Shelf.Ren := ⟨fun | 6 => 83 | n => n, fun | 22 => 40 | 23 => 35 | 25 => 96 | 3 => 3 | 0 => 0 | 4 => 4 | n => n, fun | n => n⟩
theorem Lay.idxF : Go.Proofs.SlLaysH0.n6 Tryd.prog Lay.idxF_ren := {
  mixed := by kernel_rfl,
  f6 := ⟨Tryd.f83.name, by decide, Tryd.func83.trans (congrArg some (by kernel_rfl))⟩,
  t0 := Tryd.underlying0,
  a0 := Tryd.isAgg0,
  z0 := Tryd.sizeOf0,
  v0 := Tryd.zeroValue0,
  t3 := Tryd.underlying3,
  a3 := Tryd.isAgg3,
  z3 := Tryd.sizeOf3,
  v3 := Tryd.zeroValue3,
  t4 := Tryd.underlying4,
  a4 := Tryd.isAgg4,
  z4 := Tryd.sizeOf4,
  v4 := Tryd.zeroValue4,
  t22 := Tryd.underlying40,
  a22 := Tryd.isAgg40,
  z22 := Tryd.sizeOf40,
  v22 := Tryd.zeroValue40,
  t25 := Tryd.underlying96,
  a25 := Tryd.isAgg96,
  z25 := Tryd.sizeOf96,
  v25 := Tryd.zeroValue96 }
/-- outside of the range -/
def outP (a b : Int) (x : EnS) : Bool := decide (x.1.key < a) || decide (b < x.1.key)
theorem keep_in (a b : Int) (x : EnS) : (!(outP a b x)) = (decide (a ≤ x.1.key) && decide (x.1.key ≤ b)) := by
  unfold outP
  rw [Bool.eq_iff_iff]
  simp
def IntAt (w : World) (A : Nat) (a : Int) : Prop := w.heap[A]? = some (.cells #[.int .i64 a] 3 (0, 0))
theorem IntAt.cell {w : World} {A : Nat} {a : Int} (h : IntAt w A a) : w.cell? ⟨A, 0, none⟩ = some (.int .i64 a) := by rw [cell_of_row _ _ _ _ _ _ h]; rfl
theorem Look1_calls (a b : Int) (A B : Nat) (x : EnS) (W : World) (hA : IntAt W A a) (hB : IntAt W B b) :
    Calls Tryd.prog 63 #[.agg (encS x).toArray, .pointer (some ⟨A, 0, none⟩), .pointer (some ⟨B, 0, none⟩)] W fun e w' => e = .returned (.bool (outP a b x)) ∧ Below W.heap.size W w' := by
  obtain ⟨X, hX⟩ : ∃ X, X = (encS x).toArray := ⟨_, rfl⟩
  obtain ⟨k, hk⟩ : ∃ k, k = x.1.key := ⟨_, rfl⟩
  have c0 : (W.alloc (.cells X 35)).cell? ⟨W.heap.size, 0, none⟩ = some (.int .i64 k) := by
    rw [cell_of_row _ _ _ _ _ _ (heap_alloc_new W _), hX, hk]; rfl
  have bb : Below W.heap.size W (W.alloc (.cells X 35)) := (Below.refl _ W).alloc (Nat.le_refl _) _
  have c1 : (W.alloc (.cells X 35)).cell? ⟨A, 0, none⟩ = some (.int .i64 a) := (bb.cell (p := ⟨A, 0, none⟩) (lt_of_heap hA)).trans hA.cell
  have c2 : (W.alloc (.cells X 35)).cell? ⟨B, 0, none⟩ = some (.int .i64 b) := (bb.cell (p := ⟨B, 0, none⟩) (lt_of_heap hB)).trans hB.cell
  have HB := Lib.hid bb
  have HO := Lib.hid (show outP a b x = (decide (k < a) || decide (b < k)) by unfold outP; rw [hk])
  rw [HO.out]
  rw [← hX]
  clear hX hk hA hB bb
  by_cases h : k < a
  · have z1 : decide (k < a) = true := decide_eq_true h
    clear h
    go_enter Tryd.func63, Tryd.ntmps63
    go_wp2_with fail
    go_ret
    exact ⟨by rw [z1]; rfl, HB.out⟩
  · have z1 : decide (k < a) = false := decide_eq_false h
    clear h
    go_enter Tryd.func63, Tryd.ntmps63
    go_wp2_with fail
    go_ret
    exact ⟨by rw [z1]; rfl, HB.out⟩
theorem cellsE_set (Y : List En) (hY : ∀ e ∈ Y, e.val.length = 32) (k : Nat) (hk : k < Y.length) (E : En) (hE : E.val.length = 32) : setRange (cellsE Y) (k * 33) (eL E) = cellsE (Y.set k E) := by
  have hY2 : ∀ e ∈ Y.set k E, e.val.length = 32 := by
    intro x hx
    rcases List.mem_or_eq_of_mem_set hx with hx | rfl
    · exact hY x hx
    · exact hE
  have l1 := cellsE_length Y hY
  have l2 := cellsE_length (Y.set k E) hY2
  rw [List.length_set] at l2
  have le := eL_length hE
  apply List.ext_getElem?
  intro j
  rw [setRange_get _ _ _ _ (by rw [l1, le]; omega), le]
  by_cases hj : j < 33 * Y.length
  · have hq : j / 33 < Y.length := by omega
    have hr : j % 33 < 33 := Nat.mod_lt _ (by omega)
    have e2 := cellsE_get (Y.set k E) hY2 (j / 33) (j % 33) (by rw [List.length_set]; exact hq) hr
    rw [show j / 33 * 33 + j % 33 = j by omega] at e2
    rw [e2]
    by_cases c : k * 33 ≤ j ∧ j < k * 33 + 33
    · have hk2 : j / 33 = k := by omega
      rw [if_pos c]
      have e3 : (Y.set k E)[j / 33]'(by rw [List.length_set]; exact hq) = E := by simp only [hk2, List.getElem_set_self]
      rw [e3, show j - k * 33 = j % 33 by omega]
    · rw [if_neg c]
      have e1 := cellsE_get Y hY (j / 33) (j % 33) hq hr
      rw [show j / 33 * 33 + j % 33 = j by omega] at e1
      have e3 : (Y.set k E)[j / 33]'(by rw [List.length_set]; exact hq) = Y[j / 33] := List.getElem_set_ne (by omega) _
      rw [e1, e3]
  · rw [if_neg (by omega), List.getElem?_eq_none (by omega), List.getElem?_eq_none (by omega)]
theorem own_entset {w : World} {base g cap : Nat} {Y : List En} {n : Nat} (h : w.ownsRow base 35 33 (.slice (some ⟨g, 0, none⟩) n cap) n (cellsE Y)) (hY : ∀ e ∈ Y, e.val.length = 32) (k : Nat) (hk : k < Y.length) (E : En) (hE : E.val.length = 32) :
    (w.setCells g (k * 33) (eL E)).ownsRow base 35 33 (.slice (some ⟨g, 0, none⟩) n cap) n (cellsE (Y.set k E)) := by
  have := own_setCells (eL E) w _ (k * 33) h
  rwa [cellsE_set Y hY k hk E hE] at this
theorem own_entthere {w : World} {base g cap : Nat} {Y : List En} {n : Nat} (h : w.ownsRow base 35 33 (.slice (some ⟨g, 0, none⟩) n cap) n (cellsE Y)) (hY : ∀ e ∈ Y, e.val.length = 32) (o m : Nat) (hm : o + m ≤ Y.length * 33) : w.there g o m := by
  intro j hj
  have := own_cellS h (k := o + j) (by rw [cellsE_length Y hY]; omega)
  exact ⟨by rw [this.1]; rfl, this.2⟩
section
variable {w : World} {ops : Array Oper} {rest : List Oper} {op : Oper} {a : Act} {Q : Exit → Act → World → Prop}
theorem st_entMid (hgd : op.guard = none) (x y : Operand) (ho : op.op = .store 35 x y) (b o : Nat) (E : En) (hE : E.val.length = 32) (hx : a.eval x = .pointer (some ⟨b, o, none⟩)) (hy : a.eval y = .agg (eV E.key E.val)) (ht : w.there b o 33)
    (h : wpList Tryd.prog ops Q rest (a.put op.dst undef) (w.setCells b o (eL E))) : wpList Tryd.prog ops Q (op :: rest) a w :=
  wpList_store_mid hgd _ x y ho b o (eV E.key E.val) hx hy (by rw [eVs hE]; exact ht) (by rw [eVs hE]; exact info_ent) (eV_one E) (by rw [eV_list]; exact h)
theorem zeroE (w : World) : (zeroValue 35).run Tryd.prog w = .ok (.agg (eV 0 nz)) w := by
  have := Tryd.zeroValue35 w
  rw [this]
  congr 1
def zerosE (n : Nat) : List Value := (Builtin.zeroCells (Value.agg (eV 0 nz)).cells n).toList
theorem zerosE_length (n : Nat) : (zerosE n).length = n * 33 := by
  unfold zerosE Builtin.zeroCells
  simp [Value.cells, eV_size 0 nz rfl]
theorem zerosE_one (n : Nat) : ∀ v ∈ zerosE n, v.oneCell' = true := by
  intro v hv
  unfold zerosE Builtin.zeroCells at hv
  simp only [Array.toList_map, List.mem_map] at hv
  obtain ⟨i, _, rfl⟩ := hv
  have hs : (Value.agg (eV 0 nz)).cells.size = 33 := eV_size 0 nz rfl
  have hi : i % (Value.agg (eV 0 nz)).cells.size < (Value.agg (eV 0 nz)).cells.size := by rw [hs]; exact Nat.mod_lt _ (by omega)
  rw [getElem!_pos (Value.agg (eV 0 nz)).cells (i % (Value.agg (eV 0 nz)).cells.size) hi]
  have := eV_one ⟨0, nz⟩
  rw [Array.all_eq_true] at this
  exact this _ hi
theorem run_clearE (w : World) (ty : TypeId) (b o n c : Nat) (hn : 0 < n) (ht : w.there b o (n * 33)) :
    (Builtin.clear_ #[40] ty #[.slice (some ⟨b, o, none⟩) n c]).run Tryd.prog w = .ok (.tuple #[]) (w.setCells b o (zerosE n)) := by
  have hl := zerosE_length n
  have hst := run_storeCells_cells (P := Tryd.prog) b o (zerosE n) 0 w (fun j hj => by rw [Nat.add_zero]; exact (ht j (by omega)).1) (fun j hj => by rw [Nat.add_zero]; exact (ht j (by omega)).2) (zerosE_one n)
  simp only [Nat.add_zero] at hst
  obtain ⟨m, rfl⟩ : ∃ m, n = m + 1 := ⟨n - 1, by omega⟩
  have hz := zeroE w
  unfold zerosE at hst
  simp [Builtin.clear_, run_underlying Tryd.underlying40, hz, hst, zerosE]
theorem wpl_clearE (hgd : op.guard = none) (x : Operand) (ho : op.op = .call { callee := .builtin .clear, args := #[x], argTypes := #[40] }) (b o n c : Nat) (hx : a.eval x = .slice (some ⟨b, o, none⟩) n c) (hn : 0 < n) (ht : w.there b o (n * 33))
    (h : wpList Tryd.prog ops Q rest (a.put op.dst (.tuple #[])) (w.setCells b o (zerosE n))) : wpList Tryd.prog ops Q (op :: rest) a w := by
  refine wpList_plain hgd fun K hK => ?_
  unfold Oper.wp execOp
  simp only [ho, resolve, invoke, builtin, Sem.run_bind, Sem.run_pure, Result.andThen_ok, List.map_toArray, List.map_cons, List.map_nil, hx, run_clearE w op.type b o n c hn ht]
  exact hK _ _ h
end
theorem IndexF_none (v : Value) (a : Option Addr) (c : Nat) (w : World) : Calls Tryd.prog 83 #[.slice a 0 c, v] w fun e w' => e = .returned (.int .i64 (-1)) ∧ w = w' := by
  go_enter Tryd.func83, Tryd.ntmps83
  go_wp2
  refine wp_loop_rounds 1 ?_
  rw [rounds_succ]
  go_wp2
  go_ret
  exact ⟨rfl, rfl⟩
theorem filter_take_succ (zs : List EnS) (p : EnS → Bool) (j : Nat) (h : j < zs.length) : (zs.take (j + 1)).filter p = (zs.take j).filter p ++ (if p zs[j] then [zs[j]] else []) := by
  rw [List.take_succ_eq_append_getElem h, List.filter_append]
  congr 1
  by_cases c : p zs[j] = true
  · simp [c]
  · simp [c]
/-- what is kept, moved ahead -/
def DelRet (w : World) (base : Nat) (ks : List En) (e : Ending) (w' : World) : Prop :=
  ∃ a c e', e = .returned (.slice a ks.length c) ∧ Rd w' a e' (cellsE ks) ∧ Below base w w'
theorem keep_take {α : Type} (p : α → Bool) : ∀ (l : List α), l.any p = true → ∃ y r, l.dropWhile (fun x => !(p x)) = y :: r ∧ p y = true
  | [], h => by simp at h
  | x :: l, h => by
    cases hx : p x with
    | true => exact ⟨x, l, by simp [hx], hx⟩
    | false =>
      rw [List.any_cons, hx, Bool.false_or] at h
      obtain ⟨y, r, h1, h2⟩ := keep_take p l h
      exact ⟨y, r, by simpa [hx] using h1, h2⟩
set_option maxRecDepth 20000 in
set_option maxHeartbeats 4000000 in
theorem Del_calls (a b : Int) (A B : Nat) (zs : List EnS) (base : Nat) (av : Option Addr) (cap : Nat) (hn : zs.length ≤ 256) (w : World) (hA : IntAt w A a) (hB : IntAt w B b) (hAb : A < base) (hBb : B < base) (hown : w.ownsRow base 35 33 (.slice av zs.length cap) zs.length (cellsE (vals zs))) :
    Calls Tryd.prog 61 #[.slice av zs.length cap, .func (.func 63) #[] #[.pointer (some ⟨A, 0, none⟩), .pointer (some ⟨B, 0, none⟩)]] w (DelRet w base (vals (zs.filter fun x => !(outP a b x)))) := by
  have hcp := own_cappW hown
  have hvl : (vals zs).length = zs.length := by unfold vals; rw [List.length_map]
  by_cases h0 : zs = []
  · subst h0
    have IN := IndexF_none (.func (.func 63) #[] #[.pointer (some ⟨A, 0, none⟩), .pointer (some ⟨B, 0, none⟩)]) av cap w
    have HIN := Lib.hid IN
    clear IN hown hA hB hvl
    go_enter Tryd.func61, Tryd.ntmps61
    go_wp2_with fail
    refine HIN.out.mono ?_
    rintro e w' ⟨rfl, rfl⟩
    go_wp2_with fail
    go_ret
    exact ⟨av, cap, 0, rfl, .inl rfl, Below.refl _ _⟩
  · have hl0 : 0 < zs.length := List.length_pos_iff.2 h0
    obtain ⟨g, hg, hgb⟩ := own_some hown hl0
    subst hg
    have hgl := (hown.lt g rfl).2
    have eg : ∀ args w, (callFunc 63 args).run Tryd.prog w = .ok (.enter 63 args) w := enters_of Tryd.func63 (by kernel_rfl) rfl
    have hpb : PredBelow Tryd.prog 63 #[.pointer (some ⟨A, 0, none⟩), .pointer (some ⟨B, 0, none⟩)] (fun x => .agg (encS x).toArray) (outP a b) w := fun W x hb => by
      have := Look1_calls a b A B x W ((hb.block A (lt_of_heap hA)).trans hA) ((hb.block B (lt_of_heap hB)).trans hB)
      exact this.mono fun e w' h => ⟨h.1, hb.trans (h.2.mono hb.size)⟩
    have IC := AnyQ.slices_IndexFunc Lay.idxF 33 Tryd.isAgg35 Tryd.sizeOf35 encS encS_length (outP a b) 63 #[.pointer (some ⟨A, 0, none⟩), .pointer (some ⟨B, 0, none⟩)] eg g 0 zs.length cap zs w hpb (Nat.le_refl _) (by omega) hgl (fun j hj i v hi => by
        rw [getElem!_pos zs j hj] at hi
        have hi2 : i < 33 := by have := (List.getElem?_eq_some_iff.1 hi).1; rwa [encS_length] at this
        have e1 := cellsE_get (vals zs) (vals_len zs) j i (by omega) hi2
        have e2 : (vals zs)[j]'(by omega) = zs[j].1 := by unfold vals; rw [List.getElem_map]
        rw [e2] at e1
        have hlt : j * 33 + i < (cellsE (vals zs)).length := by rw [cellsE_length _ (vals_len zs)]; omega
        have := (own_cellS hown (k := j * 33 + i) hlt).1
        rw [Nat.zero_add, this]
        rw [List.getElem?_eq_getElem hlt] at e1
        rw [e1]; exact hi)
    change Calls Tryd.prog 83 _ _ _ at IC
    rw [List.take_of_length_le (Nat.le_refl _), idxBy, idx_take, Nat.zero_add] at IC
    obtain ⟨n1, hn1⟩ : ∃ n1, n1 = (zs.takeWhile fun x => !(outP a b x)).length := ⟨_, rfl⟩
    have ts := take_split (fun x => !(outP a b x)) zs
    rw [← hn1] at IC ts
    by_cases hany : zs.any (outP a b) = true
    · rw [if_pos hany] at IC
      have hlt1 := any_lt (outP a b) zs hany
      rw [← hn1] at hlt1
      obtain ⟨y, r, hdw, hy⟩ := keep_take (outP a b) zs hany
      obtain ⟨n, hnn⟩ : ∃ n, n = zs.length := ⟨_, rfl⟩
      have hk0 : (vals ((zs.take (n1 + 1)).filter fun x => !(outP a b x))) = (vals zs).take n1 := by
        have e1 : zs[n1]'hlt1 = y := by
          have h1 : zs.drop n1 = y :: r := by rw [← ts.2]; exact hdw
          have h2 := List.drop_eq_getElem_cons hlt1
          rw [h1] at h2
          exact (List.cons.inj h2).1.symm
        rw [filter_take_succ zs _ n1 hlt1, e1, hy]
        simp only [Bool.not_true, Bool.false_eq_true, if_false, List.append_nil]
        rw [← ts.1, List.filter_eq_self.2 (fun x hx => List.all_eq_true.1 List.all_takeWhile x hx)]
        unfold vals
        rw [ts.1, List.map_take]
      have HIC := Lib.hid IC
      have HK0 := Lib.hid hk0
      have HHA := Lib.hid hA
      have HHB := Lib.hid hB
      have HOWN := Lib.hid hown
      have HVL := Lib.hid hvl
      have HGB := Lib.hid hgb
      have HNN := Lib.hid hnn
      have HKEEP := Lib.hid (show ∀ x : EnS, (!(outP a b x)) = (!(outP a b x)) from fun _ => rfl)
      have q1 : IntKind.i64.wrap ((n1 : Int) + 1) = ((n1 + 1 : Nat) : Int) := by rw [IntWalk.i64_in _ (by omega)]; omega
      have q2 : ((n1 : Int) == -1) = false := by rw [beq_eq_false_iff_ne]; omega
      rw [← hnn] at HIC ⊢
      have hn256 : n ≤ 256 := by omega
      have hl1 : n1 < n := by omega
      obtain ⟨n2, hn2⟩ : ∃ n2, n2 = n1 + 1 := ⟨_, rfl⟩
      rw [← hn2] at q1
      have HN2 := Lib.hid hn2
      clear IC hk0 ts hdw hy hn1 hany hlt1 hpb eg hA hB hown hvl hgb hnn hn2 h0 hn hl0
      go_enter Tryd.func61, Tryd.ntmps61
      go_wp2_with fail
      refine HIC.out.mono ?_
      rintro e w2 ⟨rfl, hb2⟩
      have B2 := Lib.hid hb2
      have O2 := Lib.hid (own_below HOWN.out hb2)
      have A2 := Lib.hid ((hb2.block A (lt_of_heap HHA.out)).trans HHA.out)
      have BB2 := Lib.hid ((hb2.block B (lt_of_heap HHB.out)).trans HHB.out)
      have hbs : base ≤ w.heap.size := Nat.le_of_lt (Nat.lt_of_le_of_lt HGB.out hgl)
      clear hb2 HIC
      go_wp2_with fail
      go_loopw [5, 6] (fun iv jv wr => ∃ (i j : Nat) (Y : List En), iv = .int .i64 (i : Int) ∧ jv = .int .i64 (j : Int) ∧ i < j ∧ j ≤ n ∧ Hid (Y.length = n) ∧ Hid (∀ e ∈ Y, e.val.length = 32) ∧ Hid (Y.take i = vals ((zs.take j).filter fun x => !(outP a b x))) ∧ Hid (((zs.take j).filter fun x => !(outP a b x)).length = i) ∧ Hid (Y.drop j = (vals zs).drop j) ∧ Hid (wr.ownsRow base 35 33 (.slice (some ⟨g, 0, none⟩) n cap) n (cellsE Y)) ∧ Hid (IntAt wr A a) ∧ Hid (IntAt wr B b) ∧ Hid (Below base w wr)) (fun _ jv _ => n - (intOf jv).toNat)
      case atStart =>
        refine ⟨n1, n2, vals zs, rfl, rfl, by have := HN2.out; omega, by have := HN2.out; omega, Lib.hid (by rw [HVL.out, HNN.out]), Lib.hid (vals_len zs), Lib.hid (by rw [HN2.out]; exact HK0.out.symm), Lib.hid ?_, Lib.hid rfl, Lib.hid (by rw [HNN.out]; exact O2.out), A2, BB2, Lib.hid (B2.out.mono hbs)⟩
        have := congrArg List.length HK0.out
        unfold vals at this
        rw [List.length_map, List.length_take, List.length_map] at this
        rw [HN2.out, this]
        have := HNN.out
        omega
      case round =>
        obtain ⟨i, j, Y, rfl, rfl, hij, hjn, YL, YD, YT, YC, YR, YO, HA, HB, HBL⟩ := hrel
        obtain ⟨wA, rfl⟩ : ∃ z, z = wr := ⟨_, rfl⟩
        have hgA := (YO.out.lt g rfl).2
        have hbA : base ≤ wA.heap.size := Nat.le_of_lt (Nat.lt_of_le_of_lt HGB.out hgA)
        by_cases hlt : j < n
        · have hjz : j < zs.length := by rw [← HNN.out]; exact hlt
          have hjY : j < Y.length := by rw [YL.out]; exact hlt
          have hYj : Y[j] = (zs[j]).1 := by
            have h1 := List.drop_eq_getElem_cons hjY
            have h2 := List.drop_eq_getElem_cons (show j < (vals zs).length by rw [HVL.out]; exact hjz)
            have h3 := YR.out
            rw [h1, h2] at h3
            rw [(List.cons.inj h3).1]
            unfold vals
            rw [List.getElem_map]
          have hYd : Y.drop (j + 1) = (vals zs).drop (j + 1) := by rw [← List.drop_drop, YR.out, List.drop_drop]
          have hft := filter_take_succ zs (fun x => !(outP a b x)) j hjz
          obtain ⟨x, hx⟩ : ∃ x, x = zs[j] := ⟨_, rfl⟩
          rw [← hx] at hYj hft
          have rY := Rd.of_own YO.out
          obtain ⟨b9, o9, hb9, hb9l, hrg⟩ := rY.ent YD.out hjY
          obtain ⟨rfl, rfl⟩ : g = b9 ∧ 0 = o9 := by simpa using hb9
          rw [hYj, Nat.zero_add] at hrg
          have j0 : (0 : Int) ≤ (j : Int) := by omega
          have j1 : (j : Int) < (n : Int) := by omega
          have i0 : (0 : Int) ≤ (i : Int) := by omega
          have i1 : (i : Int) < (n : Int) := by omega
          have e4 : IntKind.i64.wrap ((j : Int) + 1) = (j : Int) + 1 := IntWalk.i64_in _ (by omega)
          have e5 : IntKind.i64.wrap ((i : Int) + 1) = (i : Int) + 1 := IntWalk.i64_in _ (by omega)
          obtain ⟨V, hV⟩ : ∃ V, V = wA.heap.size := ⟨_, rfl⟩
          obtain ⟨wB, hwB⟩ : ∃ z, z = wA.alloc (.cells (eV x.1.key x.1.val) 35) := ⟨_, rfl⟩
          have bAB : Below wA.heap.size wA wB := by rw [hwB]; exact (Below.refl _ _).alloc (Nat.le_refl _) _
          have GV := Lib.hid (show wB.heap[V]? = some (.cells (eV x.1.key x.1.val) 35 (0, 0)) by rw [hwB, hV]; exact heap_alloc_new _ _)
          have OB := Lib.hid (own_below YO.out bAB)
          have HAB := (bAB.block A (lt_of_heap HA.out)).trans HA.out
          have HBB := (bAB.block B (lt_of_heap HB.out)).trans HB.out
          have BBB := Lib.hid (HBL.out.trans (bAB.mono hbA))
          have LC := Look1_calls a b A B x wB HAB HBB
          have HLC := Lib.hid LC
          have HHAB := Lib.hid HAB
          have HHBB := Lib.hid HBB
          have HV := Lib.hid hV
          have HWB := Lib.hid hwB
          have HRG := Lib.hid hrg
          have HYD := Lib.hid hYd
          have HFT := Lib.hid hft
          have X32 := Lib.hid x.2.1
          have hgB : g < wB.heap.size := Nat.lt_of_lt_of_le hgA bAB.size
          clear hrg hYd hft hx hYj rY hb9 hb9l hV hwB bAB HAB HBB LC YO HA HB HBL
          cases hout : outP a b x with
          | true =>
            have hf := HFT.out
            rw [hout] at hf
            simp only [Bool.not_true, Bool.false_eq_true, if_false, List.append_nil] at hf
            have HF := Lib.hid hf
            rw [hout] at HLC
            clear hf hout
            go_wp2_with (first
              | ((refine ld_entG rfl (.tmp 24) rfl g (j * 33) (by rfl) x.1 X32.out HRG.out ?_); simp only [Act.put, List.setIfInBounds_toArray, List.set_cons_zero, List.set_cons_succ])
              | ((refine st_entNew rfl (.tmp 7) (.tmp 25) rfl x.1 X32.out (by rfl) _ _ (by rfl) (by rfl) ?_); rw [← HV.out, ← HWB.out])
              | ((refine ld_entG rfl (.tmp 7) rfl V 0 (by rfl) x.1 X32.out (range_ent GV.out) ?_); simp only [Act.put, List.setIfInBounds_toArray, List.set_cons_zero, List.set_cons_succ]))
            refine HLC.out.mono ?_
            rintro e wC ⟨rfl, hbC⟩
            have OC := Lib.hid (own_below OB.out hbC)
            have AC := Lib.hid ((hbC.block A (lt_of_heap HHAB.out)).trans HHAB.out)
            have BC := Lib.hid ((hbC.block B (lt_of_heap HHBB.out)).trans HHBB.out)
            have LC2 := Lib.hid (BBB.out.trans (hbC.mono (Nat.le_of_lt (Nat.lt_of_le_of_lt HGB.out hgB))))
            clear hbC HLC
            go_wp2_with fail
            go_roundw
            case rel => exact ⟨i, j + 1, Y, rfl, by go_num, by omega, by omega, YL, YD, Lib.hid (by rw [HF.out]; exact YT.out), Lib.hid (by rw [HF.out]; exact YC.out), HYD, OC, AC, BC, LC2⟩
            case measure => simp [intOf]; omega
          | false =>
            have hf := HFT.out
            rw [hout] at hf
            simp only [Bool.not_false, if_true] at hf
            have HF := Lib.hid hf
            rw [hout] at HLC
            have hiY : i < Y.length := by rw [YL.out]; omega
            have T2 : (Y.set i x.1).take (i + 1) = vals ((zs.take (j + 1)).filter fun x => !(outP a b x)) := by
              rw [hf]
              unfold vals
              rw [List.map_append, List.take_succ_eq_append_getElem (by rw [List.length_set]; exact hiY), List.getElem_set_self, List.take_set_of_le (Nat.le_refl _)]
              congr 1
              all_goals exact YT.out
            have T3 : (Y.set i x.1).drop (j + 1) = (vals zs).drop (j + 1) := by rw [List.drop_set_of_lt (by omega)]; exact HYD.out
            have T4 : ∀ e ∈ Y.set i x.1, e.val.length = 32 := by
              intro e he
              rcases List.mem_or_eq_of_mem_set he with he | rfl
              · exact YD.out e he
              · exact X32.out
            have HT2 := Lib.hid T2
            have HT3 := Lib.hid T3
            have HT4 := Lib.hid T4
            have HT5 := Lib.hid (show ((zs.take (j + 1)).filter fun x => !(outP a b x)).length = i + 1 by rw [hf, List.length_append, YC.out]; rfl)
            clear hf hout T2 T3 T4
            go_wp2_with (first
              | ((refine ld_entG rfl (.tmp 24) rfl g (j * 33) (by rfl) x.1 X32.out HRG.out ?_); simp only [Act.put, List.setIfInBounds_toArray, List.set_cons_zero, List.set_cons_succ])
              | ((refine st_entNew rfl (.tmp 7) (.tmp 25) rfl x.1 X32.out (by rfl) _ _ (by rfl) (by rfl) ?_); rw [← HV.out, ← HWB.out])
              | ((refine ld_entG rfl (.tmp 7) rfl V 0 (by rfl) x.1 X32.out (range_ent GV.out) ?_); simp only [Act.put, List.setIfInBounds_toArray, List.set_cons_zero, List.set_cons_succ]))
            refine HLC.out.mono ?_
            rintro e wC ⟨rfl, hbC⟩
            have OC := Lib.hid (own_below OB.out hbC)
            have GVC := Lib.hid ((hbC.block V (lt_of_heap GV.out)).trans GV.out)
            have AC := (hbC.block A (lt_of_heap HHAB.out)).trans HHAB.out
            have BC := (hbC.block B (lt_of_heap HHBB.out)).trans HHBB.out
            have LC2 := BBB.out.trans (hbC.mono (Nat.le_of_lt (Nat.lt_of_le_of_lt HGB.out hgB)))
            have hth := Lib.hid (own_entthere OC.out YD.out (i * 33) 33 (by rw [YL.out]; omega))
            obtain ⟨wE, hwE⟩ : ∃ z, z = wC.setCells g (i * 33) (eL x.1) := ⟨_, rfl⟩
            have OE := Lib.hid (show wE.ownsRow base 35 33 (.slice (some ⟨g, 0, none⟩) n cap) n (cellsE (Y.set i x.1)) by rw [hwE]; exact own_entset OC.out YD.out i (by rw [YL.out]; omega) x.1 X32.out)
            have AE := Lib.hid (show IntAt wE A a by rw [hwE]; exact (heap_setCells_other (by have := HGB.out; omega) _ _ _).trans AC)
            have BE := Lib.hid (show IntAt wE B b by rw [hwE]; exact (heap_setCells_other (by have := HGB.out; omega) _ _ _).trans BC)
            have LE := Lib.hid (show Below base w wE by rw [hwE]; exact below_setCells _ _ LC2 HGB.out)
            have HWE := Lib.hid hwE
            clear hbC HLC AC BC LC2 hwE
            go_wp2_with (first
              | ((refine ld_entG rfl (.tmp 7) rfl V 0 (by rfl) x.1 X32.out (range_ent GVC.out) ?_); simp only [Act.put, List.setIfInBounds_toArray, List.set_cons_zero, List.set_cons_succ])
              | ((refine st_entMid rfl (.tmp 33) (.tmp 32) rfl g (i * 33) x.1 X32.out (by first | rfl | simp) (by rfl) hth.out ?_); rw [← HWE.out]; simp only [Act.put, List.setIfInBounds_toArray, List.set_cons_zero, List.set_cons_succ]))
            go_roundw
            case rel => exact ⟨i + 1, j + 1, Y.set i x.1, by go_num, by go_num, by omega, by omega, Lib.hid (by rw [List.length_set]; exact YL.out), HT4, HT2, HT5, HT3, OE, AE, BE, LE⟩
            case measure => simp [intOf]; omega
        · obtain rfl : n = j := by omega
          have hzn : zs.take n = zs := List.take_of_length_le (by rw [HNN.out]; exact Nat.le_refl _)
          have yt := YT.out
          have yc := YC.out
          rw [hzn] at yt yc
          have hks : (vals (zs.filter fun x => !(outP a b x))).length = i := by unfold vals; rw [List.length_map]; exact yc
          have i0 : (0 : Int) ≤ (i : Int) := by omega
          have i1 : (i : Int) ≤ (n : Int) := by omega
          have hc1 : n ≤ cap := by rw [HNN.out]; exact hcp.1
          have i2 : (i : Int) ≤ (cap : Int) := by omega
          have i3 : ((n : Int) - (i : Int)).toNat = n - i := by omega
          have i4 : ((cap : Int) - (i : Int)).toNat = cap - i := by omega
          have i5 : i ≠ cap := by omega
          have i6 : ¬ cap = i := by omega
          have i7 : (i : Int) ≠ (cap : Int) := by omega
          have hth := Lib.hid (own_entthere YO.out YD.out (i * 33) ((n - i) * 33) (by rw [YL.out]; omega))
          obtain ⟨wE, hwE⟩ : ∃ z, z = wA.setCells g (i * 33) (zerosE (n - i)) := ⟨_, rfl⟩
          have RE := Lib.hid (show Rd wE (some ⟨g, 0, none⟩) 35 (cellsE (Y.take i)) by
            rw [hwE, cellsE_take Y i YD.out]
            have o9 := own_setCells (zerosE (n - i)) wA _ (i * 33) YO.out
            have r9 := (Rd.of_own o9).take (i * 33)
            have e9 : (setRange (cellsE Y) (i * 33) (zerosE (n - i))).take (i * 33) = (cellsE Y).take (i * 33) := by
              apply List.ext_getElem?
              intro q
              by_cases hq : q < i * 33
              · rw [List.getElem?_take, List.getElem?_take, if_pos hq, if_pos hq, setRange_get _ _ _ _ (by rw [cellsE_length Y YD.out, zerosE_length, YL.out]; omega), if_neg (by omega)]
              · rw [List.getElem?_eq_none (by rw [List.length_take]; omega), List.getElem?_eq_none (by rw [List.length_take]; omega)]
            rwa [e9] at r9)
          have LE := Lib.hid (show Below base w wE by rw [hwE]; exact below_setCells _ _ HBL.out HGB.out)
          have HWE := Lib.hid hwE
          have HYT := Lib.hid yt
          have HKS := Lib.hid hks
          clear hzn yt yc hks hwE
          have hcl := run_clearE wA 0 g (i * 33) (n - i) (cap - i) (by omega) hth.out
          rw [← HWE.out] at hcl
          go_wp2_with fail
          go_ret
          exact ⟨some ⟨g, 0, none⟩, cap, _, by rw [HKS.out]; rfl, by rw [← HYT.out]; exact RE.out, LE.out⟩
    · have hfa : zs.any (outP a b) = false := by simpa using hany
      rw [if_neg hany] at IC
      have hall : zs.filter (fun x => !(outP a b x)) = zs := List.filter_eq_self.2 fun x hx => by
        have := List.any_eq_false.1 hfa x hx
        simpa using this
      rw [hall]
      have HIC := Lib.hid IC
      have HVL := Lib.hid hvl
      have HOWN := Lib.hid hown
      have hbs : base ≤ w.heap.size := Nat.le_of_lt (Nat.lt_of_le_of_lt hgb hgl)
      clear IC hall hfa hany hpb eg hA hB hown ts hn1 hvl
      go_enter Tryd.func61, Tryd.ntmps61
      go_wp2_with fail
      refine HIC.out.mono ?_
      rintro e w2 ⟨rfl, hb2⟩
      have O2 := Lib.hid (own_below HOWN.out hb2)
      have B2 := Lib.hid hb2
      clear hb2 HIC
      go_wp2_with fail
      go_ret
      exact ⟨some ⟨g, 0, none⟩, cap, _, by rw [HVL.out]; rfl, Rd.of_own O2.out, B2.out.mono hbs⟩
end Go.Proofs.YtpeomfehdccmmaaDoor
