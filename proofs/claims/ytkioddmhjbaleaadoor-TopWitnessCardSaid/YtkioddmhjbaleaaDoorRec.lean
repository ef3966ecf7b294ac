/- Records of a name, a digest and a number, as values: what comes in, loads, are two the same. Words for the walks; they say nothing of what the program does. -/
import Derived.Test.YtkioddmhjbaleaaDoorArrA
import Derived.Test.YtkioddmhjbaleaaDoorOpenA
import Derived.Deep.Strs
namespace Go.Proofs.YtkioddmhjbaleaaDoor
open Go.RowKit Go.ChangeShapes Go.WideShapes Go.ChangeAt
set_option linter.unusedVariables false

/-- a text's bytes -/
def sb (s : ByteArray) : List UInt8 := s.data.toList
theorem sb_length (s : ByteArray) : (sb s).length = s.size := by
  unfold sb
  rw [Array.length_toList]
  rfl
theorem sb_inj {s t : ByteArray} (h : sb s = sb t) : s = t := by
  cases s with
  | mk a => cases t with
    | mk b =>
      congr 1
      exact Array.toList_inj.1 h
theorem toList_sb (s : ByteArray) : s.toList = sb s := ByteArray.toList_eq s
/-- a record as a value -/
def nL (s : ByteArray) (key : List UInt8) (t : Int) : List Value := .string s :: (key.map vB ++ [.int .i64 t])
def nV (s : ByteArray) (key : List UInt8) (t : Int) : Array Value := (nL s key t).toArray
theorem nL_length (s : ByteArray) (key : List UInt8) (t : Int) (h : key.length = 32) : (nL s key t).length = 34 := by
  unfold nL
  rw [List.length_cons, List.length_append, List.length_map, h]
  rfl
theorem nV_size (s : ByteArray) (key : List UInt8) (t : Int) (h : key.length = 32) : (nV s key t).size = 34 := by
  unfold nV
  rw [List.size_toArray, nL_length _ _ _ h]
theorem nV_0 (s : ByteArray) (key : List UInt8) (t : Int) : (nV s key t)[0]? = some (.string s) := rfl
theorem nV_33 (s : ByteArray) (key : List UInt8) (t : Int) (h : key.length = 32) : (nV s key t)[33]? = some (.int .i64 t) := by
  unfold nV nL
  rw [List.getElem?_toArray, show (33 : Nat) = 32 + 1 from rfl, List.getElem?_cons_succ, List.getElem?_append_right (by rw [List.length_map, h]; exact Nat.le_refl _), List.length_map, h]
  rfl
theorem nV_key (s : ByteArray) (key : List UInt8) (t : Int) (h : key.length = 32) (j : Nat) (hj : j < 32) : (nV s key t)[1 + j]? = some (vB (key[j]'(by omega))) := by
  unfold nV nL
  rw [List.getElem?_toArray, Nat.add_comm 1 j, List.getElem?_cons_succ, List.getElem?_append_left (by rw [List.length_map, h]; exact hj), List.getElem?_map, List.getElem?_eq_getElem (show j < key.length by omega)]
  rfl
theorem nV_cut (s : ByteArray) (key : List UInt8) (t : Int) (h : key.length = 32) : (nV s key t).extract 1 33 = dV key := by
  apply Array.toList_inj.1
  rw [Array.toList_extract, dV_list]
  show List.take 32 (List.drop 1 (nL s key t)) = _
  unfold nL
  rw [List.drop_succ_cons, List.drop_zero, List.take_append_of_le_length (by rw [List.length_map, h]; exact Nat.le_refl _), List.take_of_length_le (by rw [List.length_map, h]; exact Nat.le_refl _)]
theorem nV_list (s : ByteArray) (key : List UInt8) (t : Int) : (nV s key t).toList = nL s key t := by simp [nV]
theorem nV_one (s : ByteArray) (key : List UInt8) (t : Int) : (nV s key t).all (·.oneCell') = true := by
  unfold nV
  apply all_oneCell_toArray
  intro v hv
  unfold nL at hv
  rcases List.mem_cons.1 hv with rfl | hv
  · rfl
  · rcases List.mem_append.1 hv with hv | hv
    · exact one_bytes _ v hv
    · rw [List.mem_singleton.1 hv]; rfl
theorem nV_inj {s s' : ByteArray} {key key' : List UInt8} {t t' : Int} (h : key.length = 32) (h' : key'.length = 32) (e : nV s key t = nV s' key' t') : s = s' ∧ key = key' ∧ t = t' := by
  have e0 := congrArg (fun a => a[0]?) e
  have e1 := congrArg (fun a => a[33]?) e
  have e2 := congrArg (fun a => a.extract 1 33) e
  rw [nV_0, nV_0] at e0
  rw [nV_33 _ _ _ h, nV_33 _ _ _ h'] at e1
  rw [nV_cut _ _ _ h, nV_cut _ _ _ h'] at e2
  refine ⟨by injection e0 with e0; injection e0, dV_inj e2, by injection e1 with e1; injection e1⟩
/-- the type of such records: B is the type of bytes -/
def RecT (P : Program) (T B : TypeId) : Prop := ∃ f0 f1 f2 : Field, P.underlying T = some (.struct #[f0, f1, f2]) ∧ (f0.name ≠ "_" ∧ f1.name ≠ "_" ∧ f2.name ≠ "_") ∧ (f0.offset = 0 ∧ f1.offset = 1 ∧ f2.offset = 33) ∧
  (P.underlying f0.type = some .string ∧ P.underlying f1.type = some (.array 32 B) ∧ P.underlying f2.type = some (.int .i64) ∧ P.underlying B = some (.int .u8)) ∧
  (P.cellsOf T = 34 ∧ P.cellsOf f0.type = 1 ∧ P.cellsOf f1.type = 32 ∧ P.cellsOf f2.type = 1 ∧ P.cellsOf B = 1) ∧ P.stoodInHeld T = false ∧
  (∀ w, (sizeOf f1.type).run P w = .ok 32 w) ∧ (∀ w, (sizeOf B).run P w = .ok 1 w) ∧ (P.info? T).map (·.size) = some 34
section
variable {H : Type} {enc : TypeId × Value → H} {P : Program} {w : World} {spare : Nat → Bool} {held : Bool}
theorem trod_rec {T B : TypeId} (hT : RecT P T B) {n : Nat} {cs : List Value} {y : DataW H × List MemPlace} (h : DataW.trod enc P w 0 spare held n T cs = some y) :
    ∃ (s : ByteArray) (key : List UInt8) (z : Int), cs = nL s key z ∧ key.length = 32 ∧ s.size ≤ 9223372036854775807 ∧ (-9223372036854775808 ≤ z ∧ z ≤ 9223372036854775807) := by
  obtain ⟨f0, f1, f2, ht, _, ⟨o0, o1, o2⟩, ⟨h0, h1, h2, hB⟩, ⟨hc, c0, c1, c2, cB⟩, _⟩ := hT
  obtain ⟨y0, y1, y2, m, _, hl, g0, g1, g2⟩ := Deep.trod_struct3 ht h
  rw [hc] at hl
  rw [o0, c0, List.drop_zero] at g0
  rw [o1, c1] at g1
  rw [o2, c2] at g2
  obtain ⟨s, e0, _, hs⟩ := DataW.trod_string h0 g0
  obtain ⟨key, hk, e1⟩ := trod_digest h1 hB c1 cB g1
  obtain ⟨z, e2, _, hw⟩ := DataW.trod_int h2 g2
  have b := bounds_i64 hw
  refine ⟨s, key, z, ?_, hk, by simp only [maxLen] at hs; omega, b⟩
  have hcs : cs = cs.take 1 ++ ((cs.drop 1).take 32 ++ (cs.drop 33).take 1) := by
    conv => lhs; rw [← List.take_append_drop 1 cs, ← List.take_append_drop 32 (cs.drop 1)]
    rw [List.drop_drop, List.take_of_length_le (l := List.drop 33 cs) (by rw [List.length_drop, hl]; exact Nat.le_refl _)]
  rw [hcs, e0, e1, e2]
  rfl
/-- a record that came in -/
theorem open_rec {T B : TypeId} (hT : RecT P T B) {r : Reach} {b0 : Nat} {v : Value} {d : DataW H} {ps : List MemPlace} (hval : Value.okWide P w r b0 T v) (h : DataW.Trod enc P w 0 spare held T v d ps) :
    ∃ (s : ByteArray) (key : List UInt8) (z : Int), v = .agg (nV s key z) ∧ key.length = 32 ∧ s.size ≤ 9223372036854775807 ∧ (-9223372036854775808 ≤ z ∧ z ≤ 9223372036854775807) := by
  obtain ⟨f0, f1, f2, ht, _⟩ := id hT
  obtain ⟨cs, rfl, _⟩ := okWide_struct ht hval
  obtain ⟨fuel, hf⟩ := h
  obtain ⟨s, key, z, e, h1, h2, h3⟩ := trod_rec hT hf
  refine ⟨s, key, z, ?_, h1, h2, h3⟩
  congr 1
  apply Array.toList_inj.1
  rw [nV_list, ← e]
  rfl
end
/-- are two records the same? -/
theorem rec_eq {P : Program} {T B : TypeId} (hT : RecT P T B) {s s' : ByteArray} {key key' : List UInt8} {t t' : Int} (hk : key.length = 32) (hk' : key'.length = 32) (w : World) :
    (Op.equalIn 10000 T (.agg (nV s key t)) (.agg (nV s' key' t'))).run P w = .ok (decide (s = s' ∧ key = key' ∧ t = t')) w := by
  obtain ⟨f0, f1, f2, ht, ⟨n0, n1, n2⟩, ⟨o0, o1, o2⟩, ⟨h0, h1, h2, hB⟩, _, hh, hz, hzB, _⟩ := hT
  have hf : P.fieldsOf T = #[f0, f1, f2] := by unfold Program.fieldsOf; rw [ht]
  rw [run_equalIn_agg w 9999 T _ _ (by rw [hf]; exact ht) hh, hf]
  have p0 : ∀ (s : ByteArray) (key : List UInt8) (t : Int), (part f0.type (nV s key t) f0.offset).run P w = .ok (.string s) w := by
    intro s key t
    simp [part, isAgg, run_underlying h0, o0, nV_0]
  have p1 : ∀ (s : ByteArray) (key : List UInt8) (t : Int), key.length = 32 → (part f1.type (nV s key t) f1.offset).run P w = .ok (.agg (dV key)) w := by
    intro s key t hk
    simp [part, isAgg, run_underlying h1, o1, hz, nV_cut _ _ _ hk]
  have p2 : ∀ (s : ByteArray) (key : List UInt8) (t : Int), key.length = 32 → (part f2.type (nV s key t) f2.offset).run P w = .ok (.int .i64 t) w := by
    intro s key t hk
    simp [part, isAgg, run_underlying h2, o2, nV_33 _ _ _ hk]
  have e0 : (Op.equalIn 9999 f0.type (.string s) (.string s')).run P w = .ok (decide (s = s')) w := by
    rw [run_equalIn_string w 9998 _ _ _ h0]
    congr 1
    rw [Bool.eq_iff_iff, beq_iff_eq, decide_eq_true_iff, toList_sb, toList_sb]
    exact ⟨sb_inj, fun h => by rw [h]⟩
  have e1 : (Op.equalIn 9999 f1.type (.agg (dV key)) (.agg (dV key'))).run P w = .ok (decide (key = key')) w := by
    have := run_equalIn_bytes w 9997 f1.type B 32 h1 hB hzB key key' hk hk'
    refine Eq.trans this ?_
    congr 1
    rw [Bool.eq_iff_iff, beq_iff_eq, decide_eq_true_iff]
  have e2 : (Op.equalIn 9999 f2.type (.int .i64 t) (.int .i64 t')).run P w = .ok (decide (t = t')) w := by
    rw [run_equalIn_int w 9998 _ .i64 .i64 _ _ h2]
    rfl
  simp only [Op.eqFields, n0, n1, n2, ne_eq, not_false_eq_true, if_true, Sem.run_bind, p0, p1 _ _ _ hk, p1 _ _ _ hk', p2 _ _ _ hk, p2 _ _ _ hk', e0, e1, e2, Result.andThen_ok, Sem.run_ite, Sem.run_pure]
  by_cases a : s = s' <;> by_cases b : key = key' <;> by_cases c : t = t' <;> simp [a, b, c]
section
variable {P : Program} {T B : TypeId} {ops : Array Oper} {rest : List Oper} {op : Oper} {a : Act} {w : World} {Q : Exit → Act → World → Prop}
/-- a record is loaded out of a block that holds it alone -/
theorem ld_rec (hT : RecT P T B) (hgd : op.guard = none) (x : Operand) (ho : op.op = .load T x) (g : Nat) (hx : a.eval x = .pointer (some ⟨g, 0, none⟩)) (s : ByteArray) (key : List UInt8) (t : Int) (hl : key.length = 32) (u : TypeId) (fr : Nat × Nat) (hg : w.heap[g]? = some (.cells (nV s key t) u fr))
    (h : wpList P ops Q rest (a.put op.dst (.agg (nV s key t))) w) : wpList P ops Q (op :: rest) a w := by
  obtain ⟨f0, f1, f2, ht, _, _, _, _, _, _, _, hi⟩ := hT
  exact wpList_load_row hgd _ x ho g hx u (nV s key t) fr _ hg ht rfl (by rw [nV_size _ _ _ hl]; exact hi) h
/-- .. where it is guarded, and wanted -/
theorem ld_recG (hT : RecT P T B) (hgd : Region.wanted op (yielded ops a.tmps) = true) (x : Operand) (ho : op.op = .load T x) (g : Nat) (hx : a.eval x = .pointer (some ⟨g, 0, none⟩)) (s : ByteArray) (key : List UInt8) (t : Int) (hl : key.length = 32) (u : TypeId) (fr : Nat × Nat) (hg : w.heap[g]? = some (.cells (nV s key t) u fr))
    (h : wpList P ops Q rest (a.put op.dst (.agg (nV s key t))) w) : wpList P ops Q (op :: rest) a w := by
  obtain ⟨f0, f1, f2, ht, _, _, _, _, _, _, _, hi⟩ := hT
  unfold wpList
  rw [if_pos hgd]
  exact .inl (wp_load_row _ x ho g hx u (nV s key t) fr _ hg ht rfl (by rw [nV_size _ _ _ hl]; exact hi) h)
end
end Go.Proofs.YtkioddmhjbaleaaDoor
