/- Digests by value, their zeros; and walks: sha.Of, and the document's Of: the digest of a byte and of digests. -/
import Derived.Test.YtkioddmhjbaleaaDoorSha
import Derived.Test.YtkioddmhjbaleaaDoorRSum
import Derived.Test.YtkioddmhjbaleaaDoorArrA
import Derived.Test.YtkioddmhjbaleaaDoorMemA
import Derived.Great.BuildSlice
import Derived.Laws.Tables
import Derived.StillTailTactics
import Derived.Laws.OwnMore
import Derived.Deep.DeepCutAuto
namespace Go.Proofs.YtkioddmhjbaleaaDoor
open Go.RowKit
set_option linter.unusedVariables false
def nz : List UInt8 := List.replicate 32 0
theorem nz_length : nz.length = 32 := rfl
theorem zdig : (#[.int .u8 0, .int .u8 0, .int .u8 0, .int .u8 0, .int .u8 0, .int .u8 0, .int .u8 0, .int .u8 0, .int .u8 0, .int .u8 0, .int .u8 0, .int .u8 0, .int .u8 0, .int .u8 0, .int .u8 0, .int .u8 0, .int .u8 0, .int .u8 0, .int .u8 0, .int .u8 0, .int .u8 0, .int .u8 0, .int .u8 0, .int .u8 0, .int .u8 0, .int .u8 0, .int .u8 0, .int .u8 0, .int .u8 0, .int .u8 0, .int .u8 0, .int .u8 0] : Array Value) = dV nz := by kernel_rfl
theorem Rd.box (w : World) (d : List UInt8) (t : TypeId) : Rd (w.alloc (.cells (dV d) t)) (some ⟨w.heap.size, 0, none⟩) t (d.map vB) := by
  have := Rd.new w (dV d) t
  rwa [dV_list] at this
theorem own_byte1 (w : World) (x : UInt8) (base : Nat) (hb : base ≤ w.heap.size) : (w.alloc (.cells #[.int .u8 x.toNat] 5)).ownsRow base 5 1 (.slice (some ⟨w.heap.size, 0, none⟩) 1 1) 1 ([x].map vB) :=
  World.ownsRow_lit (base := base) (e := 5) (size := 1) w #[.int .u8 x.toNat] 1 hb (by simp only [maxLen]; decide) rfl
theorem RoundsAt.below {w w' : World} {B : Nat} (h : RoundsAt w) (hb : Below B w w') (hB : 1 < B) : RoundsAt w' := by
  obtain ⟨t, f, h⟩ := h
  exact ⟨t, f, (hb.block _ hB).trans h⟩
theorem RoundsAt.lt {w : World} (h : RoundsAt w) : 1 < w.heap.size := by
  obtain ⟨t, f, h⟩ := h
  exact lt_of_heap h
theorem RoundsAt.at_ {w w' : World} (h : RoundsAt w) (hb : Below w.heap.size w w') : RoundsAt w' := h.below hb h.lt
theorem fill_two (c1 c2 c0 : Array Value) (size : Nat) (hs : 0 < size) (h1 : c1.size = size) (h2 : c2.size = size) (h0 : c0.size = 2 * size) : Instr.fill (fun i => some (i * size, size)) c0 [(0, .agg c1), (1, .agg c2)] = some (c1 ++ c2) := by
  have := Great.fill_whole hs [.agg c1, .agg c2] c0 (fun v hv => by
    rcases List.mem_cons.1 hv with rfl | hv
    · exact h1
    · rw [List.mem_singleton.1 hv]; exact h2) (by simp [h0])
  refine Eq.trans this ?_
  simp [Value.cells]
section
variable {P : Program} {w : World} {ops : Array Oper} {rest : List Oper} {o : Oper} {a : Act} {Q : Exit → Act → World → Prop}
theorem wpl_build2 (T e : TypeId) (z : Value) (size bytes : Nat) (ht : P.underlying T = some (.slice e)) (hinfo : (P.info? e).map (fun i => (i.zero, i.size, i.bytes)) = some (some z, size, bytes)) (hsz : 0 < size) (hsm : size ≤ 1000) (hgd : o.guard = none)
    (x y : Operand) (ho : o.op = .buildSlice T 2 #[(0, x), (1, y)]) (c1 c2 : Array Value) (hx : a.eval x = .agg c1) (hy : a.eval y = .agg c2) (h1 : c1.size = size) (h2 : c2.size = size)
    (h : wpList P ops Q rest (a.put o.dst (.slice (some ⟨w.heap.size, 0, none⟩) 2 2)) (w.alloc (.cells (c1 ++ c2) e))) : wpList P ops Q (o :: rest) a w := by
  unfold wpList
  rw [if_pos (by unfold Region.wanted; rw [hgd])]
  refine .inl ?_
  obtain ⟨i, hi, hz, hs', hb⟩ := info_parts hinfo
  refine wp_buildSlice T e 2 _ ho (c1 ++ c2) i z ht hi hz (by rw [hs']; omega) (by rw [hs']; omega) ?_ h
  have he : (Array.map (fun x => match x with | (i, x) => (i, a.eval x)) #[(0, x), (1, y)]).toList = [(0, .agg c1), (1, .agg c2)] := by
    simp [hx, hy]
  rw [hs']
  refine Eq.trans (congrArg _ he) ?_
  exact fill_two c1 c2 _ size hsz h1 h2 (by simp)
end
theorem built_nz : Tryd.prog.built 23 [] = some (dV nz) := by kernel_rfl
theorem wpl_zero {w : World} {ops : Array Oper} {rest : List Oper} {o : Oper} {a : Act} {Q : Exit → Act → World → Prop} (hg : o.guard = none) (ho : o.op = .build 23 #[]) (Z : List UInt8) (hZ : Z = nz) (h : wpList Tryd.prog ops Q rest (a.put o.dst (.agg (dV Z))) w) : wpList Tryd.prog ops Q (o :: rest) a w := by
  subst hZ
  refine wpList_plain hg fun _ hK => ?_
  unfold Oper.wp execOp
  simp only [ho, Sem.run_bind]
  have := run_build (P := Tryd.prog) w 23 #[] (dV nz) built_nz
  simp only [List.map_toArray, List.map_nil, this, Result.andThen_ok]
  exact hK _ _ h
theorem still_dig {w : World} {ops : Array Oper} {rest : List Oper} {op : Oper} {a : Act} {Q : Act → Prop} (hgd : Region.wanted op (yielded ops a.tmps) = true) (x : Operand) (ho : op.op = .load 23 x) (b o : Nat) (hx : a.eval x = .pointer (some ⟨b, o, none⟩)) (d : List UInt8) (hl : d.length = 32) (hc : w.rangeAt b o (d.map vB))
    (h : wpStill Tryd.prog ops w Q rest (a.put op.dst (.agg (dV d)))) : wpStill Tryd.prog ops w Q (op :: rest) a := by
  unfold wpStill
  rw [if_pos hgd]
  unfold Oper.still execOp
  simp only [ho, hx, Instr.loadAt, Instr.sureAddr, Sem.run_bind, Sem.run_pure, Result.andThen_ok, run_loadVar_mid w b o _ (d.map vB) _ hc Tryd.underlying23 rfl (by rw [List.length_map, hl]; exact dig_size)]
  exact ⟨rfl, h⟩
theorem results_cell_tmp {fn : Func} {k u : Nat} {t : TypeId} (h : fn.results = #[.cell k t, .tmp u]) (tmps : Array Value) (P : Program) (w : World) (p : Addr) (v : Value) (hp : tmps.getD k undef = .pointer (some p)) (hl : (loadVar t p).run P w = .ok v w) : (results fn tmps).run P w = .ok (.tuple #[v, tmps.getD u undef]) w := by
  have hp2 : tmps[k]?.getD undef = .pointer (some p) := by simpa using hp
  simp [results, h, hp2, asAddr, hl]
theorem dV_app (d e : List UInt8) : dV d ++ dV e = dV (d ++ e) := by unfold dV; simp
set_option maxRecDepth 20000 in
set_option maxHeartbeats 4000000 in
theorem ShaOf_calls (t : UInt8) (ds : List (List UInt8)) (hd : ∀ d ∈ ds, d.length = 32) (hn : ds.length ≤ 1000) (a : Option Addr) (cap e : Nat) (w : World) (hr : Rd w a e (ds.flatten.map vB)) (hro : RoundsAt w) :
    Calls Tryd.prog 73 #[.int .u8 t.toNat, .slice a ds.length cap] w fun e w' => e = .returned (.agg (dV (shaOf (t :: ds.flatten)))) ∧ Below w.heap.size w w' := by
  obtain ⟨H, hH⟩ : ∃ H, H = w.heap.size := ⟨_, rfl⟩
  obtain ⟨w0, hw0⟩ : ∃ z, z = w.alloc (.cells (dV nz) 23) := ⟨_, rfl⟩
  have q0 : w0.heap.size = H + 1 := by rw [hw0, hH]; exact World.size_alloc _ _
  have s0 : Below (H) w w0 := by rw [hw0, hH]; exact (Below.refl _ _).alloc (Nat.le_refl _) _
  have t0 : Below (H + 1) w0 w0 := Below.refl _ _
  have bL : Below H w w0 := s0.trans (t0.mono (by omega))
  have g0 : w0.heap[H]? = some (.cells (dV nz) 23 (0, 0)) := by
    have g : w0.heap[H]? = some (.cells (dV nz) 23 (0, 0)) := by rw [hw0, hH]; exact heap_alloc_new _ _
    exact (t0.block _ (by omega)).trans g
  have bW : Below w.heap.size w w0 := by rw [← hH]; exact bL
  have hsz : H < w0.heap.size := by omega
  have HH := Lib.hid hH
  have HW0 := Lib.hid hw0
  have BL := Lib.hid bL
  have BW := Lib.hid bW
  have QL := Lib.hid q0
  have G0 := Lib.hid g0
  clear hH hw0 q0 s0 t0 g0 bL bW
  have rd0 : Rd w0 a e (ds.flatten.map vB) := hr.below BW.out
  have ro0 : RoundsAt w0 := hro.at_ BW.out
  have o1 : (w0.alloc (.cells #[.int .u8 t.toNat] 5)).ownsRow (H + 1) 5 1 (.slice (some ⟨H + 1, 0, none⟩) 1 1) 1 ([t].map vB) := by rw [← QL.out]; exact own_byte1 w0 t _ (Nat.le_refl _)
  have b1 : Below (H + 1) w0 (w0.alloc (.cells #[.int .u8 t.toNat] 5)) := by rw [← QL.out]; exact (Below.refl _ _).alloc (Nat.le_refl _) _
  have hfl := (flat_get ds hd).1
  have RD0 := Lib.hid rd0
  have RO0 := Lib.hid ro0
  have HD := Lib.hid hd
  have O1 := Lib.hid o1
  have B1 := Lib.hid b1
  have HFL := Lib.hid hfl
  clear rd0 ro0 hd o1 b1 hr hro hfl
  go_enter Tryd.func73, Tryd.ntmps73
  go_wp2_with fail
  rw [zdig, ← HH.out, ← HW0.out]
  go_loopw [5, 12] (fun v i wr => ∃ (k : Nat) (av : Option Addr) (cp : Nat), k ≤ ds.length ∧ i = .int .i64 k ∧ v = .slice av (1 + 32 * k) cp ∧ wr.ownsRow (H + 1) 5 1 (.slice av (1 + 32 * k) cp) (1 + 32 * k) ((t :: (ds.take k).flatten).map vB) ∧ Below (H + 1) w0 wr) (fun _ i _ => ds.length - (intOf i).toNat)
  case atStart => exact ⟨0, some ⟨H + 1, 0, none⟩, 1, Nat.zero_le _, rfl, rfl, O1.out, B1.out⟩
  case round =>
    clear O1 B1
    obtain ⟨k, av, cp, hk, rfl, rfl, hown, hbl⟩ := hrel
    have hsr : H + 1 ≤ wr.heap.size := by have := hbl.size; rw [← QL.out]; exact this
    by_cases hlt : k < ds.length
    · obtain ⟨b, o, rfl, hb, hrg⟩ := RD0.out.range HD.out hlt
      have hlen : ds[k].length = 32 := HD.out _ (List.getElem_mem _)
      have hrg2 : wr.rangeAt b (o + k * 32) (ds[k].map vB) := fun j v hj => (hbl.cell (p := ⟨b, o + k * 32 + j, none⟩) (by rw [← QL.out]; exact hb)).trans (hrg j v hj)
      have hst : (ds.take (k + 1)).flatten = (ds.take k).flatten ++ ds[k] := by
        rw [List.take_succ_eq_append_getElem hlt, List.flatten_append]; simp
      have k0 : (0 : Int) ≤ (k : Int) := by omega
      have k1 : (k : Int) < (ds.length : Int) := by omega
      have HRG := Lib.hid hrg2
      have HLEN := Lib.hid hlen
      have HST := Lib.hid hst
      have HO := Lib.hid hown
      have HBL := Lib.hid hbl
      clear hrg hrg2 hlen hst hown hbl
      obtain ⟨D, hD⟩ : ∃ D, D = ds[k] := ⟨_, rfl⟩
      rw [← hD] at HRG HLEN HST
      clear hD
      go_wp2_with (first
        | (refine ld_dig rfl (.tmp 14) rfl b (o + k * 32) (by rfl) D HLEN.out HRG.out ?_)
        | (refine st_new rfl (.tmp 7) (.tmp 15) rfl D HLEN.out (by rfl) _ _ (by rfl) (by rfl) ?_)
        | (at_builtin; refine appAllw 67 5 (.int .u8 0) 1 1 Tryd.underlying67 info_byte rfl (by omega) rfl (.tmp 16) (.tmp 17) (by rfl) (H + 1) _ (1 + 32 * k) _ (by rfl) (HO.out.alloc _) (some ⟨wr.heap.size, 0, none⟩) 32 32 (D.map vB) (by rfl) _ (Rd.box wr D _) (by rw [List.length_map]; exact HLEN.out) (one_bytes D) (by omega) (by omega) (by rw [World.size_alloc]; omega) ?_; intro av3 cp3 w3 hown3 hb3; rw [← List.map_append, List.cons_append, ← HST.out] at hown3; have O3 := Lib.hid hown3; have B3 := Lib.hid (HBL.out.trans (Below.trans ((Below.refl _ wr).alloc hsr _) hb3)); clear hown3 hb3))
      go_roundw
      case rel => exact ⟨k + 1, av3, cp3, hlt, by go_num, rfl, O3.out, B3.out⟩
      case measure => simp [intOf] <;> omega
    · obtain rfl : k = ds.length := by omega
      rw [List.take_of_length_le (Nat.le_refl _)] at hown
      have hlen : (t :: ds.flatten).length = 1 + 32 * ds.length := by rw [List.length_cons, HFL.out]; omega
      have SC := Sha_calls (t :: ds.flatten) av cp _ wr (Rd.of_own hown) (by rw [hlen]; omega) (RO0.out.at_ (by rw [QL.out]; exact hbl)) (RO0.out.at_ (by rw [QL.out]; exact hbl)).lt
      rw [hlen] at SC
      have gr := (hbl.block H (by omega)).trans G0.out
      have HSC := Lib.hid SC
      have GR := Lib.hid gr
      have HBL := Lib.hid hbl
      clear SC gr hbl hown hlen
      go_wp2_with fail
      refine HSC.out.mono ?_
      rintro e w5 ⟨rfl, hb5⟩
      have G5 := Lib.hid ((hb5.block _ (lt_of_heap GR.out)).trans GR.out)
      have B5 := Lib.hid (BL.out.trans ((HBL.out.trans (hb5.mono hsr)).mono (by omega)))
      clear hb5 HSC
      go_wp2_with (refine st_row rfl (.tmp 4) (.tmp 21) rfl H (shaOf (t :: ds.flatten)) (shaOf_length _) (by rfl) (by rfl) (dV nz) (by rfl) _ G5.out ?_)
      try simp only [Exit.inBlock, Exit.then]
      refine bodyPost_ret (v := .agg (dV (shaOf (t :: ds.flatten)))) (results_cellW rfl _ _ _ ⟨H, 0, none⟩ _ rfl ?_) rfl ?_
      · exact dig_load (shaOf_length _) (range_of_row (setRow_heap _ _ _ _ _ _ G5.out))
      · exact ⟨rfl, by rw [← HH.out]; exact below_setRowW B5.out (Nat.le_refl _) _⟩
set_option maxRecDepth 20000 in
set_option maxHeartbeats 4000000 in
theorem ROf_calls (t : UInt8) (ds : List (List UInt8)) (hd : ∀ d ∈ ds, d.length = 32) (hn : ds.length ≤ 1000) (a : Option Addr) (cap e : Nat) (w : World) (hr : Rd w a e (ds.flatten.map vB)) :
    Calls Tryd.prog 48 #[.int .u8 t.toNat, .slice a ds.length cap] w fun e w' => e = .returned (.agg (dV (shaOf (t :: ds.flatten)))) ∧ Below w.heap.size w w' := by
  obtain ⟨H, hH⟩ : ∃ H, H = w.heap.size := ⟨_, rfl⟩
  obtain ⟨w0, hw0⟩ : ∃ z, z = w.alloc (.cells (dV nz) 23) := ⟨_, rfl⟩
  have q0 : w0.heap.size = H + 1 := by rw [hw0, hH]; exact World.size_alloc _ _
  have s0 : Below (H) w w0 := by rw [hw0, hH]; exact (Below.refl _ _).alloc (Nat.le_refl _) _
  have t0 : Below (H + 1) w0 w0 := Below.refl _ _
  have bL : Below H w w0 := s0.trans (t0.mono (by omega))
  have g0 : w0.heap[H]? = some (.cells (dV nz) 23 (0, 0)) := by
    have g : w0.heap[H]? = some (.cells (dV nz) 23 (0, 0)) := by rw [hw0, hH]; exact heap_alloc_new _ _
    exact (t0.block _ (by omega)).trans g
  have bW : Below w.heap.size w w0 := by rw [← hH]; exact bL
  have hsz : H < w0.heap.size := by omega
  have HH := Lib.hid hH
  have HW0 := Lib.hid hw0
  have BL := Lib.hid bL
  have BW := Lib.hid bW
  have QL := Lib.hid q0
  have G0 := Lib.hid g0
  clear hH hw0 q0 s0 t0 g0 bL bW
  have rd0 : Rd w0 a e (ds.flatten.map vB) := hr.below BW.out
  have o1 : (w0.alloc (.cells #[.int .u8 t.toNat] 5)).ownsRow (H + 1) 5 1 (.slice (some ⟨H + 1, 0, none⟩) 1 1) 1 ([t].map vB) := by rw [← QL.out]; exact own_byte1 w0 t _ (Nat.le_refl _)
  have b1 : Below (H + 1) w0 (w0.alloc (.cells #[.int .u8 t.toNat] 5)) := by rw [← QL.out]; exact (Below.refl _ _).alloc (Nat.le_refl _) _
  have hfl := (flat_get ds hd).1
  have RD0 := Lib.hid rd0
  have HD := Lib.hid hd
  have O1 := Lib.hid o1
  have B1 := Lib.hid b1
  have HFL := Lib.hid hfl
  clear rd0 hd o1 b1 hr hfl
  go_enter Tryd.func48, Tryd.ntmps48
  go_wp2_with fail
  rw [zdig, ← HH.out, ← HW0.out]
  go_loopw [5, 6] (fun v i wr => ∃ (k : Nat) (av : Option Addr) (cp : Nat), k ≤ ds.length ∧ i = .int .i64 k ∧ v = .slice av (1 + 32 * k) cp ∧ wr.ownsRow (H + 1) 5 1 (.slice av (1 + 32 * k) cp) (1 + 32 * k) ((t :: (ds.take k).flatten).map vB) ∧ Below (H + 1) w0 wr) (fun _ i _ => ds.length - (intOf i).toNat)
  case atStart => exact ⟨0, some ⟨H + 1, 0, none⟩, 1, Nat.zero_le _, rfl, rfl, O1.out, B1.out⟩
  case round =>
    clear O1 B1
    obtain ⟨k, av, cp, hk, rfl, rfl, hown, hbl⟩ := hrel
    have hsr : H + 1 ≤ wr.heap.size := by have := hbl.size; rw [← QL.out]; exact this
    by_cases hlt : k < ds.length
    · obtain ⟨b, o, rfl, hb, hrg⟩ := RD0.out.range HD.out hlt
      have hlen : ds[k].length = 32 := HD.out _ (List.getElem_mem _)
      have hrg2 : wr.rangeAt b (o + k * 32) (ds[k].map vB) := fun j v hj => (hbl.cell (p := ⟨b, o + k * 32 + j, none⟩) (by rw [← QL.out]; exact hb)).trans (hrg j v hj)
      have hst : (ds.take (k + 1)).flatten = (ds.take k).flatten ++ ds[k] := by
        rw [List.take_succ_eq_append_getElem hlt, List.flatten_append]; simp
      have k0 : (0 : Int) ≤ (k : Int) := by omega
      have k1 : (k : Int) < (ds.length : Int) := by omega
      have e4 : IntKind.i64.wrap ((k : Int) + 1) = (k : Int) + 1 := IntWalk.i64_in _ (by omega)
      have HRG := Lib.hid hrg2
      have HLEN := Lib.hid hlen
      have HST := Lib.hid hst
      have HO := Lib.hid hown
      have HBL := Lib.hid hbl
      clear hrg hrg2 hlen hst hown hbl
      obtain ⟨D, hD⟩ : ∃ D, D = ds[k] := ⟨_, rfl⟩
      rw [← hD] at HRG HLEN HST
      clear hD
      go_wp2_with (first
        | (refine ld_dig rfl (.tmp 18) rfl b (o + k * 32) (by rfl) D HLEN.out HRG.out ?_)
        | (refine st_new rfl (.tmp 7) (.tmp 19) rfl D HLEN.out (by rfl) _ _ (by rfl) (by rfl) ?_)
        | (at_builtin; refine appAllw 67 5 (.int .u8 0) 1 1 Tryd.underlying67 info_byte rfl (by omega) rfl (.tmp 20) (.tmp 21) (by rfl) (H + 1) _ (1 + 32 * k) _ (by rfl) (HO.out.alloc _) (some ⟨wr.heap.size, 0, none⟩) 32 32 (D.map vB) (by rfl) _ (Rd.box wr D _) (by rw [List.length_map]; exact HLEN.out) (one_bytes D) (by omega) (by omega) (by rw [World.size_alloc]; omega) ?_; intro av3 cp3 w3 hown3 hb3; rw [← List.map_append, List.cons_append, ← HST.out] at hown3; have O3 := Lib.hid hown3; have B3 := Lib.hid (HBL.out.trans (Below.trans ((Below.refl _ wr).alloc hsr _) hb3)); clear hown3 hb3))
      go_roundw
      case rel => exact ⟨k + 1, av3, cp3, hlt, by go_num, rfl, O3.out, B3.out⟩
      case measure => simp [intOf] <;> omega
    · obtain rfl : k = ds.length := by omega
      rw [List.take_of_length_le (Nat.le_refl _)] at hown
      have hlen : (t :: ds.flatten).length = 1 + 32 * ds.length := by rw [List.length_cons, HFL.out]; omega
      have SC := RSum_calls (t :: ds.flatten) av cp _ wr (Rd.of_own hown) (by rw [hlen]; omega)
      rw [hlen] at SC
      have gr := (hbl.block H (by omega)).trans G0.out
      have HSC := Lib.hid SC
      have GR := Lib.hid gr
      have HBL := Lib.hid hbl
      clear SC gr hbl hown hlen
      go_wp2_with fail
      refine HSC.out.mono ?_
      rintro e w5 ⟨rfl, hb5⟩
      have G5 := Lib.hid ((hb5.block _ (lt_of_heap GR.out)).trans GR.out)
      have B5 := Lib.hid (BL.out.trans ((HBL.out.trans (hb5.mono hsr)).mono (by omega)))
      clear hb5 HSC
      go_wp2_with (refine st_row rfl (.tmp 4) (.tmp 24) rfl H (shaOf (t :: ds.flatten)) (shaOf_length _) (by rfl) (by rfl) (dV nz) (by rfl) _ G5.out ?_)
      try simp only [Exit.inBlock, Exit.then]
      refine bodyPost_ret (v := .agg (dV (shaOf (t :: ds.flatten)))) (results_cellW rfl _ _ _ ⟨H, 0, none⟩ _ rfl ?_) rfl ?_
      · exact dig_load (shaOf_length _) (range_of_row (setRow_heap _ _ _ _ _ _ G5.out))
      · exact ⟨rfl, by rw [← HH.out]; exact below_setRowW B5.out (Nat.le_refl _) _⟩
end Go.Proofs.YtkioddmhjbaleaaDoor
