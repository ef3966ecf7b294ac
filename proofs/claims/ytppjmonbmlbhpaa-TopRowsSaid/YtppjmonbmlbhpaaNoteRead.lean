/- Walks: octet.Num of fewer than eight bytes; note.Read of what note.Write tells. -/
import Derived.Test.YtppjmonbmlbhpaaWrite
import Derived.Test.YtppjmonbmlbhpaaNoteMem
import Derived.Test.YtppjmonbmlbhpaaShaBase
import Derived.Test.YtppjmonbmlbhpaaApartLaw
import Derived.Laws.IdiomStrings
import Derived.Laws.CopyRow
import Derived.Deep.CutBlock
namespace Go.Proofs.Ytppjmonbmlbhpaa
open Go.RowKit
set_option linter.unusedVariables false
set_option linter.unusedSimpArgs false
theorem numB_be4 (n : Nat) (h : n < 4294967296) : numB (be4 n) = n := by
  have e : be4 n = [beE n 0, beE n 1, beE n 2, beE n 3] := rfl
  rw [e]
  simp only [numB, List.foldl_cons, List.foldl_nil, beE, UInt8.toNat_ofNat']
  simp
  omega
theorem ONum_calls (b : List UInt8) (h1 : 0 < b.length) (h7 : b.length ≤ 7) (a : Option Addr) (cap e : Nat) (w : World) (hr : Rd w a e (b.map vB)) : Calls Try.prog 14 #[.slice a b.length cap] w fun e w' => e = .returned (.tuple #[.int .i64 (numB b), .nilIface]) ∧ w = w' := by
  have z1 : decide ((b.length : Int) < 1) = false := decide_eq_false (by omega)
  have z1b : decide (b.length < 1) = false := decide_eq_false (by omega)
  have z2 : ((b.length : Int) == 8) = false := by rw [beq_eq_false_iff_ne]; omega
  have z2b : (b.length == 8) = false := by rw [beq_eq_false_iff_ne]; omega
  have z3 : decide ((8 : Int) < (b.length : Int)) = false := decide_eq_false (by omega)
  have z4 : decide (8 < b.length) = false := decide_eq_false (by omega)
  go_enter Try.func14, Try.ntmps14
  go_wp2_with fail
  go_loopw [4, 6, 29] (fun n x i wr => ∃ k : Nat, k ≤ b.length ∧ i = .int .i64 k ∧ n = .int .i64 (numB (b.take k)) ∧ wr = w) (fun _ _ i _ => b.length - (intOf i).toNat)
  case atStart => exact ⟨0, Nat.zero_le _, rfl, rfl, rfl⟩
  case round =>
    obtain ⟨k, hk, rfl, rfl, rfl⟩ := hrel
    by_cases hlt : k < b.length
    · obtain ⟨ba, oa, hBa, _, hca⟩ := hr.bytes hlt
      obtain rfl := hBa
      have c1 := hca k hlt
      have ht := List.take_succ_eq_append_getElem hlt
      obtain ⟨y, hy⟩ : ∃ y, y = b[k] := ⟨_, rfl⟩
      rw [← hy] at c1 ht
      have hn := numB_snoc (b.take k) y
      rw [← ht] at hn
      have hlt2 : numB (b.take k) < 281474976710656 := by
        have h := numB_lt (b.take k)
        rw [List.length_take, Nat.min_eq_left (by omega)] at h
        exact Nat.lt_of_lt_of_le h (Nat.le_trans (Nat.pow_le_pow_right (by omega) (show k ≤ 6 by omega)) (by decide))
      obtain ⟨m, hm⟩ : ∃ m, m = numB (b.take k) := ⟨_, rfl⟩
      obtain ⟨m2, hm2⟩ : ∃ m2, m2 = numB (b.take (k + 1)) := ⟨_, rfl⟩
      rw [← hm] at hlt2 hn ⊢
      rw [← hm2] at hn
      have hyl := y.toNat_lt
      obtain ⟨q, hq⟩ : ∃ q, q = m * 256 := ⟨_, rfl⟩
      have e1 : IntKind.i64.wrap ((m : Int) * 256) = (q : Int) := by rw [IntWalk.i64_in _ (by omega)]; omega
      have e2 : bits .or .i64 (q : Int) (y.toNat : Int) = (m2 : Int) := by
        rw [i64_or_nat _ _ (by omega) (by omega), hn]
        congr 1
        have := Nat.two_pow_add_eq_or_of_lt (i := 8) (b := y.toNat) (by omega) m
        rw [hq, show m * 256 = 2 ^ 8 * m by omega, ← this]
      have e3 : (m : Int) * 256 = (q : Int) := by omega
      clear hq
      have i0 : (0 : Int) ≤ (k : Int) := by omega
      have i1 : (k : Int) < (b.length : Int) := by omega
      have HM2 := Lib.hid hm2
      clear hca hr hy ht hn hm hm2 z1 z1b z2 z2b z3 z4
      go_wp2_with fail
      go_roundw
      case rel => exact ⟨k + 1, by omega, by go_num, by rw [HM2.out], trivial⟩
      case measure => simp [intOf] <;> omega
    · obtain rfl : k = b.length := by omega
      rw [List.take_length]
      go_wp2_with fail
      go_ret2
      exact ⟨rfl, rfl⟩
theorem results_cell_n {fn : Func} {k u : Nat} {t : TypeId} (h : fn.results = #[.cell k t, .tmp u]) (tmps : Array Value) (P : Program) (w : World) (p : Addr) (v : Value) (hp : tmps.getD k undef = .pointer (some p)) (hl : (loadVar t p).run P w = .ok v w) : (results fn tmps).run P w = .ok (.tuple #[v, tmps.getD u undef]) w := by
  have hp2 : tmps[k]?.getD undef = .pointer (some p) := by simpa using hp
  simp [results, h, hp2, asAddr, hl]
theorem note_load {c : Ct} (hc : CtW c) {w : World} {b o : Nat} (hr : w.rangeAt b o (cL c)) : (loadVar 35 ⟨b, o, none⟩).run Try.prog w = .ok (.agg (cV c)) w := by
  obtain ⟨f0, f1, f2, ht, _, _, _, _, _, _, _, hi⟩ := contT
  exact run_loadVar_mid w b o _ (cL c) _ hr ht rfl (by rw [cL_length hc]; exact hi)
def z0 : Ct := ⟨⟨#[]⟩, noKey, 0⟩
theorem z0_W : CtW z0 := ⟨noKey_length, by decide, by decide, by decide⟩
set_option maxRecDepth 20000 in
set_option maxHeartbeats 4000000 in
theorem Read_calls (s : ByteArray) (key : List UInt8) (t : Nat) (hk : key.length = 32) (hs : named s = true) (ht : t < 4294967296) (B o cap e : Nat) (w : World) (hr : Rd w (some ⟨B, o, none⟩) e ((noteB s key t).map vB)) (hc : s.size + 37 ≤ cap) (hc2 : cap ≤ 9223372036854775807) :
    Calls Try.prog 7 #[.slice (some ⟨B, o, none⟩) (s.size + 37) cap] w fun e w' => e = .returned (.tuple #[.agg (nV s key t), .nilIface]) ∧ Below w.heap.size w w' := by
  obtain ⟨hs1, hs2⟩ := named_size hs
  have hl := noteB_length s key t hk
  obtain ⟨B2, o2, hBo, hB, hcell⟩ := hr.bytes (k := 0) (by omega)
  cases hBo
  obtain ⟨L, hL⟩ : ∃ L, L = s.size := ⟨_, rfl⟩
  obtain ⟨V, hV⟩ : ∃ V : Array Value, V = #[.string ⟨#[]⟩, .int .u8 0, .int .u8 0, .int .u8 0, .int .u8 0, .int .u8 0, .int .u8 0, .int .u8 0, .int .u8 0, .int .u8 0, .int .u8 0, .int .u8 0, .int .u8 0, .int .u8 0, .int .u8 0, .int .u8 0, .int .u8 0, .int .u8 0, .int .u8 0, .int .u8 0, .int .u8 0, .int .u8 0, .int .u8 0, .int .u8 0, .int .u8 0, .int .u8 0, .int .u8 0, .int .u8 0, .int .u8 0, .int .u8 0, .int .u8 0, .int .u8 0, .int .u8 0, .int .i64 0] := ⟨_, rfl⟩
  obtain ⟨w1, hw1⟩ : ∃ w1, w1 = w.alloc (.cells V 35) := ⟨_, rfl⟩
  have hb1 : Below w.heap.size w w1 := by rw [hw1]; exact (Below.refl _ _).alloc (Nat.le_refl _) _
  have hg1 : w1.heap[w.heap.size]? = some (.cells V 35 (0, 0)) := by rw [hw1]; exact heap_alloc_new _ _
  have hr1 := hr.below hb1
  have c0w : w.cell? ⟨B, o, none⟩ = some (.int .u8 (L : Int)) := by
    have := hcell 0 (by omega)
    rw [Nat.add_zero] at this
    rw [this]
    congr 2
    simp [noteB_eq]
    omega
  have c0 := (hb1.cell (p := ⟨B, o, none⟩) hB).trans c0w
  have hsb : ∀ w', Below w.heap.size w w' → (convert 29 9 (.slice (some ⟨B, o + 1, none⟩) L (cap - 1))).run Try.prog w' = .ok (.string s) w' := fun w' hb => by
    have := run_convert_bytes_back w' 29 9 5 ⟨B, o + 1, none⟩ (cap - 1) (sb s) Try.underlying29 Try.underlying5 Try.underlying9 (fun j hj => by
      rw [sb_length] at hj
      have h2 := hcell (1 + j) (by omega)
      have hp : (⟨B, o + 1, none⟩ : Addr).add j = ⟨B, o + (1 + j), none⟩ := by unfold Addr.add; split <;> simp_all; omega
      rw [hp, (hb.cell (p := ⟨B, o + (1 + j), none⟩) hB).trans h2]
      have e1 : (noteB s key t)[1 + j]'(by omega) = (sb s)[j]'(by rw [sb_length]; exact hj) := by
        simp only [noteB_eq, show 1 + j = j + 1 by omega, List.getElem_cons_succ]
        rw [List.getElem_append_left (by rw [sb_length]; exact hj)]
      rw [e1])
    rw [sb_length, ← hL] at this
    rw [this]
    congr 2
  have q1 : decide ((L : Int) + 37 < 1) = false := decide_eq_false (by omega)
  have q2 : IntKind.u8.wrap (1 + (L : Int)) = 1 + (L : Int) := by rw [IntKind.wrap_u8]; omega
  have q3 : ((L : Int) + 37 != 1 + (L : Int) + 36) = false := by rw [bne_eq_false_iff_eq]; omega
  have hv := hsb w1 hb1
  have HSB := Lib.hid hsb
  have HL := Lib.hid hL
  have HV := Lib.hid hV
  have HW1 := Lib.hid hw1
  have HB1 := Lib.hid hb1
  have HG1 := Lib.hid hg1
  have HR1 := Lib.hid hr1
  have HNL := Lib.hid hl
  have HS := Lib.hid hs
  rw [← hL] at hs1 hs2 hc ⊢
  clear hsb hL hV hw1 hb1 hg1 hr1 hl hs hcell c0w hr
  go_enter Try.func7, Try.ntmps7
  go_upto_region 1 with fail
  rw [← HV.out, ← HW1.out]
  obtain ⟨w2, hw2⟩ : ∃ w2, w2 = w1.alloc (.cells (cV ⟨s, noKey, 0⟩) 35) := ⟨_, rfl⟩
  have hcs : CtW ⟨s, noKey, 0⟩ := ⟨noKey_length, by rw [← HL.out]; show L ≤ _; omega, by show (-9223372036854775808 : Int) ≤ 0; decide, by show (0 : Int) ≤ 9223372036854775807; decide⟩
  have HCS := Lib.hid hcs
  have HW2 := Lib.hid hw2
  have b1 : (1 : Int) + (L : Int) ≤ (cap : Int) := by omega
  have b2 : (0 : Int) ≤ 1 + (L : Int) := by omega
  have b3 : (1 : Int) ≤ 1 + (L : Int) := by omega
  clear hcs hw2
  go_upto_region 3 with fail
  go_upto_region 4 with (((refine st_recNew contT rfl (.tmp 4) (.tmp 31) rfl ⟨s, noKey, 0⟩ HCS.out (by rfl) _ _ (by rfl) (by rfl) ?_); simp only [Act.put, List.setIfInBounds_toArray, List.set_cons_zero, List.set_cons_succ]))
  rw [← HW2.out]
  have hz1 : w1.heap.size = w.heap.size + 1 := by rw [HW1.out]; exact World.size_alloc _ _
  have b12 : Below w1.heap.size w1 w2 := by rw [HW2.out]; exact (Below.refl _ _).alloc (Nat.le_refl _) _
  have hg2 : w2.heap[w1.heap.size]? = some (.cells (cV ⟨s, noKey, 0⟩) 35 (0, 0)) := by rw [HW2.out]; exact heap_alloc_new _ _
  have B12 := Lib.hid b12
  have HG2 := Lib.hid hg2
  have HZ1 := Lib.hid hz1
  have b2w : Below w.heap.size w w2 := HB1.out.trans (b12.mono (by omega))
  have B2W := Lib.hid b2w
  have c2 : w2.cell? ⟨B, o, none⟩ = some (.int .u8 (L : Int)) := (b12.cell (p := ⟨B, o, none⟩) (by show B < _; omega)).trans c0
  have p1 : (0 : Int) ≤ 1 + (L : Int) := by omega
  have p2 : 1 + (L : Int) ≤ (L : Int) + 37 := by omega
  have p3 : (L : Int) + 37 ≤ (cap : Int) := by omega
  clear hz1 b12 hg2 b2w c0 hv
  go_upto_region 5 with fail
  have hdr : (noteB s key t).drop (1 + L) = key ++ be4 t := by
    rw [noteB_eq, Nat.add_comm 1 L, List.drop_succ_cons, HL.out, ← sb_length, List.drop_left]
  have hr2 : Rd w2 (some ⟨B, o + (1 + L), none⟩) e ((key ++ be4 t).map vB) := by
    have := (HR1.out.below B12.out).drop (1 + L)
    rwa [← List.map_drop, hdr] at this
  have hrk : Rd w2 (some ⟨B, o + (1 + L), none⟩) e (key.map vB) := by
    have := hr2.take 32
    rwa [← List.map_take, List.take_append_of_le_length (by omega), List.take_of_length_le (by omega)] at this
  have hr4 : Rd w2 (some ⟨B, o + (1 + L) + 32, none⟩) e ((be4 t).map vB) := by
    have := hr2.drop 32
    rwa [← List.map_drop, List.drop_append_of_le_length (by omega), List.drop_of_length_le (by omega), List.nil_append] at this
  obtain ⟨w3, hw3⟩ : ∃ w3, w3 = w2.setRow w1.heap.size (cV ⟨s, key, 0⟩) := ⟨_, rfl⟩
  have hcp : ∀ ty c, (Builtin.copy_ #[29, 29] ty #[.slice (some ⟨w1.heap.size, 1, none⟩) 32 32, .slice (some ⟨B, o + (1 + L), none⟩) 36 c]).run Try.prog w2 = .ok (goInt 32) w3 := fun ty c => by
    have := run_copy_row (P := Try.prog) w2 29 29 ty 5 w1.heap.size 1 32 32 ⟨B, o + (1 + L), none⟩ 36 c (cV ⟨s, noKey, 0⟩) 35 (key.map vB) Try.underlying29 (by kernel_rfl) HG2.out (by rw [List.length_map, hk]; rfl) hrk.news (by rw [List.length_map, hk, cV_size HCS.out]; decide) (one_bytes key)
    rw [List.length_map, hk] at this
    rw [this, hw3]
    have hrow : ((cV ⟨s, noKey, 0⟩).toList.take 1 ++ key.map vB ++ (cV ⟨s, noKey, 0⟩).toList.drop (1 + 32)).toArray = cV ⟨s, key, 0⟩ := rfl
    rw [hrow]
    rfl
  obtain ⟨o3, ho3⟩ : ∃ z, z = o + (1 + L) := ⟨_, rfl⟩
  obtain ⟨c3, hc3⟩ : ∃ z, z = cap - (1 + L) := ⟨_, rfl⟩
  have hc32 : 36 ≤ c3 := by omega
  rw [show L + 37 - (1 + L) = 36 by omega, ← ho3, ← hc3]
  rw [← ho3] at hr4
  rw [← ho3] at hcp
  have HR4 := Lib.hid hr4
  have HW3 := Lib.hid hw3
  clear hdr hr2 hrk hr4 hw3 ho3 hc3 p1 p2 p3 q1 q2 q3 b1 b2 b3
  go_upto_region 6 with fail
  clear hcp
  have b23 : Below w1.heap.size w2 w3 := by rw [HW3.out]; exact below_setRowW (Below.refl _ _) (Nat.le_refl _) _
  have hg3 : w3.heap[w1.heap.size]? = some (.cells (cV ⟨s, key, 0⟩) 35 (0, 0)) := by rw [HW3.out]; exact setRow_heap _ _ _ _ _ _ HG2.out
  have hr43 : Rd w3 (some ⟨B, o3 + 32, none⟩) e ((be4 t).map vB) := HR4.out.of_block fun x hx _ => by
    cases hx
    exact b23.block B (by have := HZ1.out; omega)
  have NUM := ONum_calls (be4 t) (by rw [be4_length]; omega) (by rw [be4_length]; omega) (some ⟨B, o3 + 32, none⟩) (c3 - 32) e w3 hr43
  rw [be4_length, numB_be4 t ht] at NUM
  have NC := Named_calls s (by rw [← HL.out]; omega) w3
  rw [HS.out] at NC
  have hcn : w3.cell? ⟨w1.heap.size, 0, none⟩ = some (.string s) := by rw [cell_of_row _ _ _ _ _ _ hg3]; rfl
  have hct : CtW ⟨s, key, 0⟩ := ⟨hk, by rw [← HL.out]; show L ≤ _; omega, by show (-9223372036854775808 : Int) ≤ 0; decide, by show (0 : Int) ≤ 9223372036854775807; decide⟩
  have hct2 : CtW ⟨s, key, t⟩ := ⟨hk, by rw [← HL.out]; show L ≤ _; omega, by show (-9223372036854775808 : Int) ≤ (t : Int); omega, by show (t : Int) ≤ 9223372036854775807; omega⟩
  have HG3 := Lib.hid hg3
  have B23 := Lib.hid b23
  have HCT := Lib.hid hct
  have HCT2 := Lib.hid hct2
  have HNC := Lib.hid NC
  clear hg3 b23 hr43 hct hct2 NC
  go_wp2_with fail
  refine NUM.mono ?_
  rintro e w9 ⟨rfl, rfl⟩
  clear NUM
  have NC := HNC.out
  go_wp2_with fail
  refine NC.mono ?_
  rintro e w4 ⟨rfl, hb4⟩
  clear NC hcn HNC
  have hg4 : w4.heap[w1.heap.size]? = some (.cells (cV ⟨s, key, 0⟩) 35 (0, 0)) := (hb4.block _ (lt_of_heap HG3.out)).trans HG3.out
  have B34 := Lib.hid hb4
  have HG4 := Lib.hid hg4
  have cT : w4.cell? ⟨w1.heap.size, 33, none⟩ = some (.int .i64 0) := by rw [cell_of_row _ _ _ _ _ _ hg4]; exact nV_33 s key 0 hk
  have fT : w4.frozen? ⟨w1.heap.size, 33, none⟩ = false := frozen_of_row _ _ _ _ _ hg4
  clear hb4 hg4
  go_upto_region 10 with fail
  obtain ⟨w5, hw5⟩ : ∃ z, z = w4.setCell ⟨w1.heap.size, 33, none⟩ (.int .i64 (t : Int)) := ⟨_, rfl⟩
  rw [← hw5]
  have hg5 : w5.heap[w1.heap.size]? = some (.cells (cV ⟨s, key, t⟩) 35 (0, 0)) := by
    have hset : (cV ⟨s, key, 0⟩).setIfInBounds 33 (.int .i64 (t : Int)) = cV ⟨s, key, t⟩ := by
      apply Array.toList_inj.1
      rw [Array.toList_setIfInBounds]
      show (Value.string s :: (key.map vB ++ [.int .i64 0])).set 33 (.int .i64 (t : Int)) = Value.string s :: (key.map vB ++ [.int .i64 (t : Int)])
      rw [show (33 : Nat) = 32 + 1 from rfl, List.set_cons_succ, List.set_append_right _ _ (by rw [List.length_map, hk]; exact Nat.le_refl _), List.length_map, hk]
      rfl
    rw [← hset, hw5]
    simp [World.setCell, Array.getElem?_modify, HG4.out]
  have b45 : Below w1.heap.size w4 w5 := by rw [hw5]; exact (Below.refl _ _).setCell (p := ⟨w1.heap.size, 33, none⟩) (Nat.le_refl _) _
  have b15 : Below w1.heap.size w1 w5 := B12.out.trans (B23.out.trans ((B34.out.mono (Nat.le_of_lt (lt_of_heap HG3.out))).trans b45))
  have hgv : w5.heap[w.heap.size]? = some (.cells V 35 (0, 0)) := (b15.block _ (lt_of_heap HG1.out)).trans HG1.out
  have hrg := range_rec hg5
  have hVs : V.size = 34 := by rw [HV.out]; rfl
  have HGV := Lib.hid hgv
  have HRG := Lib.hid hrg
  have HVS := Lib.hid hVs
  have HBW := Lib.hid (HB1.out.trans (b15.mono (by have := HZ1.out; omega)))
  clear hw5 hg5 b45 b15 hgv hrg hVs cT fT
  go_wp2_with (first
    | ((refine ld_recM contT rfl (.tmp 4) rfl w1.heap.size 0 (by rfl) ⟨s, key, t⟩ HCT2.out HRG.out ?_); simp only [Act.put, List.setIfInBounds_toArray, List.set_cons_zero, List.set_cons_succ])
    | ((refine st_rec contT rfl (.tmp 2) (.tmp 61) rfl w.heap.size ⟨s, key, t⟩ HCT2.out (by rfl) (by rfl) V HVS.out _ HGV.out ?_); simp only [Act.put, List.setIfInBounds_toArray, List.set_cons_zero, List.set_cons_succ]))
  try simp only [Exit.inBlock, Exit.then]
  refine bodyPost_ret (results_cell_n rfl _ _ _ ⟨w.heap.size, 0, none⟩ (.agg (cV ⟨s, key, t⟩)) rfl ?_) rfl ?_
  · exact note_load HCT2.out (range_rec (setRow_heap _ _ _ _ _ _ HGV.out))
  · exact ⟨rfl, below_setRow HBW.out (Nat.le_refl _) _⟩
end Go.Proofs.Ytppjmonbmlbhpaa
