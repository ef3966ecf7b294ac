/- What a Hasher in memory holds. Words for the walks. -/
import Derived.Test.YtkioddmhjbaleaaDoorBlkA
import Derived.Test.YtkioddmhjbaleaaDoorMemA
import Derived.Laws.IdiomCopy
import Derived.Test.YtkioddmhjbaleaaDoorOpenA
import Derived.Deep.RegionHeld3
namespace Go.Proofs.YtkioddmhjbaleaaDoor
open Go.RowKit
set_option linter.unusedVariables false
structure Has (w : World) (G : Nat) (s : List UInt32) (rv : Value) (n : Int) : Prop where
  lt : G < w.heap.size
  st : w.rangeAt G 0 (s.map vW)
  re : w.cell? ⟨G, 8, none⟩ = some rv
  nn : w.cell? ⟨G, 9, none⟩ = some (.int .i64 n)
  fz : ∀ j, w.frozen? ⟨G, j, none⟩ = false
theorem hW_get (s : List UInt32) (hs : s.length = 8) (rv : Value) (n : Int) : (hW s rv n)[8]? = some rv ∧ (hW s rv n)[9]? = some (.int .i64 n) ∧ ∀ j, j < 8 → (hW s rv n)[j]? = (s.map vW)[j]? := by
  unfold hW hL
  refine ⟨?_, ?_, fun j hj => ?_⟩
  · rw [List.getElem?_toArray, List.getElem?_append_right (by simp [hs])]; simp [hs]
  · rw [List.getElem?_toArray, List.getElem?_append_right (by simp [hs])]; simp [hs]
  · rw [List.getElem?_toArray, List.getElem?_append_left (by simp [hs]; omega)]
theorem Has.of_block {w : World} {G : Nat} {s : List UInt32} {rv : Value} {n : Int} {t : TypeId} (hs : s.length = 8) (h : w.heap[G]? = some (.cells (hW s rv n) t (0, 0))) : Has w G s rv n := by
  obtain ⟨h1, h2, h3⟩ := hW_get s hs rv n
  refine ⟨lt_of_heap h, fun j v hj => ?_, ?_, ?_, fun j => frozenW h j⟩
  · have hj8 : j < 8 := by have := (List.getElem?_eq_some_iff.1 hj).1; simpa [hs] using this
    rw [Nat.zero_add, cell_of_row w G j _ t _ h, h3 j hj8, hj]
  · rw [cell_of_row w G 8 _ t _ h, h1]
  · rw [cell_of_row w G 9 _ t _ h, h2]
theorem Has.below {w w' : World} {D G : Nat} {s : List UInt32} {rv : Value} {n : Int} (h : Has w G s rv n) (hb : Below D w w') (hG : G < D) : Has w' G s rv n :=
  ⟨Nat.lt_of_lt_of_le h.lt hb.size, fun j v hj => (hb.cell (p := ⟨G, 0 + j, none⟩) hG).trans (h.st j v hj), (hb.cell (p := ⟨G, 8, none⟩) hG).trans h.re, (hb.cell (p := ⟨G, 9, none⟩) hG).trans h.nn, fun j => (hb.frozen (p := ⟨G, j, none⟩) hG).trans (h.fz j)⟩
theorem Has.drew {w : World} {G : Nat} {s : List UInt32} {rv : Value} {n : Int} (h : Has w G s rv n) : Has w.drew G s rv n := ⟨h.lt, h.st, h.re, h.nn, h.fz⟩
theorem Has.setRest {w : World} {G : Nat} {s : List UInt32} {rv : Value} {n : Int} (hs : s.length = 8) (h : Has w G s rv n) (rv' : Value) : Has (w.setCell ⟨G, 8, none⟩ rv') G s rv' n := by
  refine ⟨by simpa [World.setCell] using h.lt, fun j v hj => ?_, World.cell?_setCell_same w _ _ h.re, ?_, fun j => by simp [h.fz]⟩
  · have hj8 : j < 8 := by have := (List.getElem?_eq_some_iff.1 hj).1; simpa [hs] using this
    rw [World.cell?_setCell_other w _ _ _ (by intro e; have h1 : 0 + j = _ := (congrArg Addr.off e).symm; simp only at h1; omega)]; exact h.st j v hj
  · rw [World.cell?_setCell_other w _ _ _ (by simp)]; exact h.nn
theorem Has.setN {w : World} {G : Nat} {s : List UInt32} {rv : Value} {n : Int} (hs : s.length = 8) (h : Has w G s rv n) (m : Int) : Has (w.setCell ⟨G, 9, none⟩ (.int .i64 m)) G s rv m := by
  refine ⟨by simpa [World.setCell] using h.lt, fun j v hj => ?_, ?_, World.cell?_setCell_same w _ _ h.nn, fun j => by simp [h.fz]⟩
  · have hj8 : j < 8 := by have := (List.getElem?_eq_some_iff.1 hj).1; simpa [hs] using this
    rw [World.cell?_setCell_other w _ _ _ (by intro e; have h1 : 0 + j = _ := (congrArg Addr.off e).symm; simp only at h1; omega)]; exact h.st j v hj
  · rw [World.cell?_setCell_other w _ _ _ (by simp)]; exact h.re
theorem Has.there {w : World} {G : Nat} {s : List UInt32} {rv : Value} {n : Int} (hs : s.length = 8) (h : Has w G s rv n) : w.there G 0 8 := fun j hj => by
  have hx : (s.map vW)[j]? = some ((s.map vW)[j]'(by simp [hs]; omega)) := List.getElem?_eq_getElem _
  exact ⟨by rw [h.st j _ hx]; rfl, h.fz _⟩
theorem setCells_lt (G : Nat) : ∀ (vs : List Value) (w : World) (o : Nat), (w.setCells G o vs).heap.size = w.heap.size
  | [], w, o => rfl
  | v :: vs, w, o => by rw [World.setCells, setCells_lt G vs]; simp [World.setCell]
theorem Has.setState {w : World} {G : Nat} {s s' : List UInt32} {rv : Value} {n : Int} (hs : s.length = 8) (hs' : s'.length = 8) (h : Has w G s rv n) : Has (w.setCells G 0 (s'.map vW)) G s' rv n := by
  refine ⟨by rw [setCells_lt]; exact h.lt, World.rangeAt_setCells_same w G 0 _ (by rw [List.length_map, hs']; exact h.there hs), ?_, ?_, fun j => by rw [World.frozen?_setCells]; exact h.fz j⟩
  · rw [World.cell?_setCells_out _ _ _ _ _ (fun _ _ => .inr (by simp [hs']))]; exact h.re
  · rw [World.cell?_setCells_out _ _ _ _ _ (fun _ _ => .inr (by simp [hs']))]; exact h.nn
theorem below_setCellsH {B G : Nat} : ∀ (vs : List Value) {w w' : World} (o : Nat), Below B w w' → B ≤ G → Below B w (w'.setCells G o vs)
  | [], _, _, _, h, _ => h
  | v :: vs, _, _, o, h, hg => below_setCellsH vs (o + 1) (h.setCell hg v) hg
theorem heap_setCells_otherH {g k : Nat} (h : k ≠ g) : ∀ (vs : List Value) (w : World) (o : Nat), (w.setCells g o vs).heap[k]? = w.heap[k]?
  | [], w, o => rfl
  | v :: vs, w, o => (heap_setCells_otherH h vs _ (o + 1)).trans (Below.heap_setCell w ⟨g, o, none⟩ v k h)
end Go.Proofs.YtkioddmhjbaleaaDoor
/- Walk: (*sha.Hasher).Write on one that has taken nothing. -/
namespace Go.Proofs.YtkioddmhjbaleaaDoor
open Go.RowKit
set_option linter.unusedVariables false
set_option linter.unusedSimpArgs false
/-- bytes of a list from a place on, at whatever capacity -/
def cutA (B o n c : Nat) : Option Addr := if c = n then some ⟨B, o, none⟩ else some ⟨B, o + n, none⟩
theorem run_cut (B o n c k : Nat) (hn : k ≤ n) (w : World) : (Instr.slice 67 (.slice (some ⟨B, o, none⟩) n c) (some (.int .i64 (k : Int))) none none).run Tryd.prog w = .ok (.slice (cutA B o k c) (n - k) (c - k)) w := by
  have hs : (sizeOf 5).run Tryd.prog w = .ok 1 w := by kernel_rfl
  have h1 : (k : Int) ≤ (n : Int) := by omega
  unfold Instr.slice cutA
  simp only [Sem.run_bind, run_underlying Tryd.underlying67 w, Result.andThen_ok]
  by_cases hc : c = k
  · simp [go_sem, hs, h1, hc, Instr.sliceBounds]
  · simp [go_sem, hs, h1, hc, Instr.sliceBounds, Addr.add, Ne.symm hc]
theorem rd_cut {w : World} {B o e : Nat} {b : List UInt8} {k c : Nat} (h : Rd w (some ⟨B, o, none⟩) e (b.map vB)) (hk : k ≤ b.length) (hc : b.length ≤ c) : Rd w (cutA B o k c) e ((b.drop k).map vB) := by
  unfold cutA
  split
  · rename_i h1
    have : b.drop k = [] := List.drop_of_length_le (by omega)
    rw [this]
    exact Rd.nil
  · have := h.drop k
    rwa [← List.map_drop] at this

/-- what Write leaves: the state behind all whole blocks, and the rest -/
def WriteTo (w : World) (G : Nat) (b : List UInt8) (e : Ending) (w' : World) : Prop :=
  e = .returned (.tuple #[]) ∧ Below G w w' ∧ ∃ ad cp er, Has w' G (run h0 b) (.slice ad (b.drop (b.length / 64 * 64)).length cp) (b.length : Int) ∧ Rd w' ad er ((b.drop (b.length / 64 * 64)).map vB) ∧ (∀ x, ad = some x → G < x.block)

theorem still_mid {P : Program} {ops : Array Oper} {w : World} {Q : Act → Prop} {a : Act} {op : Oper} {rest : List Oper} (hgd : Region.wanted op (yielded ops a.tmps) = true) (ty : TypeId) (x : Operand) (ho : op.op = .load ty x) (b o : Nat) (hx : a.eval x = .pointer (some ⟨b, o, none⟩)) (cs : List Value) (d : TypeDesc) (hc : w.rangeAt b o cs)
    (hu : P.underlying ty = some d) (hd : d.isRow = true) (hi : (P.info? ty).map (·.size) = some cs.length) (h : wpStill P ops w Q rest (a.put op.dst (.agg cs.toArray))) : wpStill P ops w Q (op :: rest) a :=
  wpStill_step fun K hK => by
    rw [if_pos hgd]
    unfold Oper.still execOp
    simp only [ho, hx, Instr.loadAt, Instr.sureAddr, Sem.run_bind, Sem.run_pure, Result.andThen_ok, run_loadVar_mid w b o ty cs d hc hu hd hi]
    exact ⟨rfl, hK _ h⟩
def restLen (G : Nat) (w : World) : Nat := match w.cell? ⟨G, 8, none⟩ with | some (.slice _ n _) => n | _ => 0
theorem restLen_of {G n c : Nat} {w : World} {a : Option Addr} (h : w.cell? ⟨G, 8, none⟩ = some (.slice a n c)) : restLen G w = n := by unfold restLen; rw [h]
def WInv (w : World) (G : Nat) (b : List UInt8) (wr : World) : Prop :=
  ∃ (s : List UInt32) (j : Nat) (ad : Option Addr) (cp er : Nat), s.length = 8 ∧ 64 * j ≤ b.length ∧ Has wr G s (.slice ad (b.drop (64 * j)).length cp) (b.length : Int) ∧ Rd wr ad er ((b.drop (64 * j)).map vB) ∧ (b.drop (64 * j)).length ≤ cp ∧ cp ≤ 9223372036854775807 ∧ (∀ x, ad = some x → G < x.block) ∧ run s (b.drop (64 * j)) = run h0 b ∧ Below G w wr
set_option maxRecDepth 100000 in
set_option maxHeartbeats 4000000 in
theorem Hwrite_calls (b : List UInt8) (a : Option Addr) (cap e : Nat) (G : Nat) (w : World) (hh : Has w G h0 (.slice none 0 0) 0) (hr : Rd w a e (b.map vB)) (ha : b = [] ∨ ∀ x, a = some x → x.block ≠ G) (hl : b.length ≤ 140737488355328) (hro : RoundsAt w) (hgs : 1 < G) :
    Calls Tryd.prog 107 #[.pointer (some ⟨G, 0, none⟩), .slice a b.length cap] w (WriteTo w G b) := by
  have hrs : Rd (w.setCell ⟨G, 9, none⟩ (.int .i64 (b.length : Int))) a e (b.map vB) := by
    rcases ha with h | h
    · subst h; exact Rd.nil
    · exact hr.setCell _ _ (fun x hx => h x hx)
  clear ha
  have c8 := hh.re
  have c9 := hh.nn
  have f8 := hh.fz 8
  have f9 := hh.fz 9
  have HH := Lib.hid hh
  have HRO := Lib.hid hro
  have wn : IntKind.i64.wrap (b.length : Int) = (b.length : Int) := IntWalk.i64_in _ (by omega)
  clear hh hro
  go_enter Tryd.func107, Tryd.ntmps107
  go_wp2_with (first
    | (at_builtin; refine appAllw 67 5 (.int .u8 0) 1 1 Tryd.underlying67 info_byte rfl (by omega) rfl (.tmp 17) (.tmp 18) (by rfl) w.heap.size (.slice none 0 0) 0 [] (by rfl) (World.ownsRow_nil _ _ _ _) a b.length cap (b.map vB) (by rfl) e hrs (by simp) (one_bytes b) (by omega) (by omega) (by simp [World.setCell]) ?_; intro av cp w3 hown3 hb3; rw [Nat.zero_add] at hown3 ⊢; have h3 := (HH.out.setN rfl (b.length : Int)).below hb3 HH.out.lt; have c8x := h3.re; have f8x := h3.fz 8; have H3 := Lib.hid h3; have HB3 := Lib.hid hb3; have HOWN3 := Lib.hid hown3; clear h3 hb3 hown3))
  clear c8 c9 f8 f9 c8x f8x
  have H4 := H3.out.setRest rfl (.slice av b.length cp)
  have B4 : Below G w (w3.setCell ⟨G, 8, none⟩ (.slice av b.length cp)) := (((Below.refl G w).setCell (p := ⟨G, 9, none⟩) (Nat.le_refl _) _).trans (HB3.out.mono (Nat.le_of_lt HH.out.lt))).setCell (Nat.le_refl _) _
  have N4 : ∀ x, av = some x → G < x.block := fun x hx => by
    subst hx
    exact Nat.lt_of_lt_of_le HH.out.lt (HOWN3.out.lt x.block rfl).1
  have R4 : Rd (w3.setCell ⟨G, 8, none⟩ (.slice av b.length cp)) av 5 (b.map vB) := (Rd.of_own HOWN3.out).setCell _ _ (fun x hx => by have := N4 x hx; show x.block ≠ G; omega)
  have C4 := own_cappW HOWN3.out
  obtain ⟨w4, hw4⟩ : ∃ w4, w4 = w3.setCell ⟨G, 8, none⟩ (.slice av b.length cp) := ⟨_, rfl⟩
  rw [← hw4] at H4 B4 R4 ⊢
  have I4 : WInv w G b w4 := ⟨h0, 0, av, cp, _, rfl, by omega, by simpa using H4, by simpa using R4, by simpa using C4.1, C4.2, N4, by simp, B4⟩
  have HI4 := Lib.hid I4
  clear H4 B4 N4 R4 C4 hw4 I4
  go_loopw [] (fun wr => WInv w G b wr) (fun wr => restLen G wr)
  case atStart => exact HI4.out
  case round =>
    obtain ⟨s, j, ad, cp, er, hsl, hjl, hh, hrr, hc1, hc2, hne, hrun, hbl⟩ := hrel
    obtain ⟨r, hr'⟩ : ∃ r, r = b.drop (64 * j) := ⟨_, rfl⟩
    rw [← hr'] at hh hrr hc1 hrun
    have hrl : r.length = b.length - 64 * j := by rw [hr', List.length_drop]
    have c8 := hh.re
    have c9 := hh.nn
    have HHr := Lib.hid hh
    have HR := Lib.hid hr'
    have HSL := Lib.hid hsl
    have HRUN := Lib.hid hrun
    have HBL := Lib.hid hbl
    have hrl47 : r.length ≤ 140737488355328 := by omega
    by_cases hlt : 64 ≤ r.length
    · have q1 : decide (64 ≤ r.length) = true := decide_eq_true hlt
      clear hrl hr' hsl hrun hbl hh
      go_wp2_with fail
      obtain ⟨B, o, hBo, hB, _⟩ := hrr.bytes (k := 0) (by omega)
      obtain rfl := hBo
      have hGB : G < B := hne _ rfl
      obtain ⟨t5, f5, hro5⟩ := HRO.out
      have hro6 : RoundsAt wr := ⟨t5, f5, (HBL.out.block _ hgs).trans hro5⟩
      have BC := Block_calls s HSL.out r hlt (some ⟨B, o, none⟩) cp er wr.drew hrr.drew (by omega) hro6 (Nat.lt_trans hgs HHr.out.lt)
      have hst := HHr.out.st
      have hinfo : (Tryd.prog.info? 203).map (·.size) = some (s.map vW).length := by have := info_st s HSL.out; rw [rW_size] at this; rw [List.length_map]; exact this
      have hut := Tryd.underlying203
      have HBC := Lib.hid hro6
      clear hro5 hro6
      have HST := Lib.hid hst
      have HBCC := Lib.hid BC
      have HRR := Lib.hid hrr
      clear hst BC hrr
      refine wp_region_any (by kernel_rfl) ?_
      change wpAny _ _ _ _ _ _ _ wr.drew
      refine wpAny_take (i := 0) (oi := _) (v := .pointer (some ⟨G, 0, none⟩)) rfl (by kernel_rfl) (by kernel_rfl) (by kernel_rfl) (fun _ _ _ h => h) (.inl ⟨by rfl, fun w => by go_simp⟩) ?_
      simp only [Act.put, List.getElem_toArray, List.getElem_cons_zero, List.getElem_cons_succ, List.setIfInBounds_toArray, List.set_cons_zero, List.set_cons_succ]
      refine wpAny_take (i := 1) (oi := _) (v := .pointer (some ⟨G, 0, none⟩)) rfl (by kernel_rfl) (by kernel_rfl) (by kernel_rfl) (fun _ _ _ h => h) (.inl ⟨by rfl, fun w => by go_simp⟩) ?_
      simp only [Act.put, List.getElem_toArray, List.getElem_cons_zero, List.getElem_cons_succ, List.setIfInBounds_toArray, List.set_cons_zero, List.set_cons_succ]
      refine wpAny_take (i := 2) (oi := _) (v := .pointer (some ⟨G, 0, none⟩)) rfl (by kernel_rfl) (by kernel_rfl) (by kernel_rfl) (fun _ _ _ h => h) (.inl ⟨by rfl, fun w => by go_simp⟩) ?_
      simp only [Act.put, List.getElem_toArray, List.getElem_cons_zero, List.getElem_cons_succ, List.setIfInBounds_toArray, List.set_cons_zero, List.set_cons_succ]
      refine wpAny_take (i := 3) (oi := _) (v := .pointer (some ⟨G, 0, none⟩)) rfl (by kernel_rfl) (by kernel_rfl) (by kernel_rfl) (fun _ _ _ h => h) (.inl ⟨by rfl, fun w => by go_simp⟩) ?_
      simp only [Act.put, List.getElem_toArray, List.getElem_cons_zero, List.getElem_cons_succ, List.setIfInBounds_toArray, List.set_cons_zero, List.set_cons_succ]
      refine wpAny_take (i := 5) (oi := _) (v := .pointer (some ⟨G, 0, none⟩)) rfl (by kernel_rfl) (by kernel_rfl) (by kernel_rfl) (fun _ _ _ h => h) (.inl ⟨by rfl, fun w => by go_simp⟩) ?_
      simp only [Act.put, List.getElem_toArray, List.getElem_cons_zero, List.getElem_cons_succ, List.setIfInBounds_toArray, List.set_cons_zero, List.set_cons_succ]
      refine wpAny_take (i := 6) (oi := _) (v := .pointer (some ⟨G, 0, none⟩)) rfl (by kernel_rfl) (by kernel_rfl) (by kernel_rfl) (fun _ _ _ h => h) (.inl ⟨by rfl, fun w => by go_simp⟩) ?_
      simp only [Act.put, List.getElem_toArray, List.getElem_cons_zero, List.getElem_cons_succ, List.setIfInBounds_toArray, List.set_cons_zero, List.set_cons_succ]
      refine wpAny_take (i := 7) (oi := _) (v := .pointer (some ⟨G, 8, none⟩)) rfl (by kernel_rfl) (by kernel_rfl) (by kernel_rfl) (fun _ _ _ h => h) (.inl ⟨by rfl, fun w => by go_simp⟩) ?_
      simp only [Act.put, List.getElem_toArray, List.getElem_cons_zero, List.getElem_cons_succ, List.setIfInBounds_toArray, List.set_cons_zero, List.set_cons_succ]
      refine wpAny_ready (rs := [4, 8]) (by kernel_rfl) (by simp) ?_
      refine AllReady.cons (o := _) rfl (fun K hK => ?_) (AllReady.cons (o := _) rfl (fun K hK => ?_) AllReady.nil)
      · have HK := Lib.hid hK
        clear hK
        rw [if_pos (by rfl)]
        refine wp_load_mid _ _ rfl G 0 (by rfl) (s.map vW) _ HST.out hut rfl hinfo ?_
        refine HK.out _ _ ?_
        clear HK K
        simp only [Act.put, List.getElem_toArray, List.getElem_cons_zero, List.getElem_cons_succ, List.setIfInBounds_toArray, List.set_cons_zero, List.set_cons_succ]
        refine wpAny_ready (rs := [8]) (by kernel_rfl) (by simp) ?_
        refine AllReady.cons (o := _) rfl (fun K hK => ?_) AllReady.nil
        have HK := Lib.hid hK
        clear hK
        go_simp
        refine HK.out _ _ ?_
        clear HK K
        try simp only [Act.put, List.getElem_toArray, List.getElem_cons_zero, List.getElem_cons_succ, List.setIfInBounds_toArray, List.set_cons_zero, List.set_cons_succ]
        refine wpAny_ready (rs := [9]) (by kernel_rfl) (by simp) ?_
        refine AllReady.cons (o := _) rfl (fun K hK => ?_) AllReady.nil
        have HK := Lib.hid hK
        clear hK
        go_simp
        go_at_call 134
        refine HBCC.out.mono ?_
        rintro e w7 ⟨rfl, hb7⟩
        dsimp only
        refine HK.out _ _ ?_
        clear HK K
        try simp only [Act.put, List.getElem_toArray, List.getElem_cons_zero, List.getElem_cons_succ, List.setIfInBounds_toArray, List.set_cons_zero, List.set_cons_succ]
        refine wpAny_take (i := 10) (oi := _) (v := .pointer (some ⟨G, 0, none⟩)) rfl (by kernel_rfl) (by kernel_rfl) (by kernel_rfl) (fun _ _ _ h => h) (.inl ⟨by rfl, fun w => by go_simp⟩) ?_
        simp only [Act.put, List.getElem_toArray, List.getElem_cons_zero, List.getElem_cons_succ, List.setIfInBounds_toArray, List.set_cons_zero, List.set_cons_succ]
        refine wpAny_take (i := 11) (oi := _) (v := .pointer (some ⟨G, 0, none⟩)) rfl (by kernel_rfl) (by kernel_rfl) (by kernel_rfl) (fun _ _ _ h => h) (.inl ⟨by rfl, fun w => by go_simp⟩) ?_
        simp only [Act.put, List.getElem_toArray, List.getElem_cons_zero, List.getElem_cons_succ, List.setIfInBounds_toArray, List.set_cons_zero, List.set_cons_succ]
        have h7 := HHr.out.drew.below hb7 HHr.out.lt
        have th7 := h7.there HSL.out
        have h8 := h7.setState HSL.out (blk_length s r)
        have b8 : Below G w (w7.setCells G 0 ((blk s r).map vW)) := below_setCellsH _ 0 (HBL.out.drew.trans (hb7.mono (Nat.le_of_lt HHr.out.lt))) (Nat.le_refl _)
        have r8 : Rd (w7.setCells G 0 ((blk s r).map vW)) (some ⟨B, o, none⟩) er (r.map vB) := (HRR.out.drew.below hb7).of_block (fun x hx _ => by obtain rfl := Option.some.inj hx; exact heap_setCells_otherH (by show B ≠ G; omega) _ _ _)
        have TH7 := Lib.hid th7
        have H8 := Lib.hid h8
        have B8 := Lib.hid b8
        have R8 := Lib.hid r8
        have i8 := info_st (blk s r) (blk_length s r)
        have c88 := h8.re
        have f88 := h8.fz 8
        have CUT := fun w => run_cut B o r.length cp 64 hlt w
        clear HBCC hb7 h7 th7 h8 b8 r8 c8 c9
        obtain ⟨w8, hw8⟩ : ∃ x, x = w7.setCells G 0 ((blk s r).map vW) := ⟨_, rfl⟩
        rw [← hw8] at H8 B8 R8 c88 f88
        have HW8 := Lib.hid hw8
        clear hw8
        refine wpAny_ready (rs := [12]) (by kernel_rfl) (by simp) ?_
        refine AllReady.cons (o := _) rfl (fun K hK => ?_) AllReady.nil
        have HK := Lib.hid hK
        clear hK
        rw [if_pos (by rfl)]
        refine wp_store_mid _ _ _ rfl G 0 (rW (blk s r)) (by rfl) (by rfl) (by rw [rW_size, blk_length]; exact TH7.out) i8 (rW_one _) ?_
        rw [show (rW (blk s r)).toList = (blk s r).map vW from rfl, ← HW8.out]
        refine HK.out _ _ ?_
        clear HK K
        try simp only [Act.put, List.getElem_toArray, List.getElem_cons_zero, List.getElem_cons_succ, List.setIfInBounds_toArray, List.set_cons_zero, List.set_cons_succ]
        refine wpAny_done (by kernel_rfl) ?_ _
        have hl64 : (b.drop (64 * (j + 1))).length = r.length - 64 := by rw [List.length_drop, HR.out, List.length_drop]; omega
        have hd64 : b.drop (64 * (j + 1)) = r.drop 64 := by rw [HR.out, List.drop_drop]; congr 1
        have hcut := rd_cut (k := 64) R8.out hlt hc1
        have hrun2 : run (blk s r) (r.drop 64) = run h0 b := by rw [← HRUN.out, run_step (l := r) (by omega), blk_take s r]
        have H9 := H8.out.setRest (blk_length _ _) (.slice (cutA B o 64 cp) (r.length - 64) (cp - 64))
        have B9 := B8.out.setCell (p := ⟨G, 8, none⟩) (Nat.le_refl _) (.slice (cutA B o 64 cp) (r.length - 64) (cp - 64))
        have hne9 : ∀ x, cutA B o 64 cp = some x → G < x.block := by intro x hx; unfold cutA at hx; split at hx <;> (obtain rfl := Option.some.inj hx; exact hGB)
        have R9 := hcut.setCell ⟨G, 8, none⟩ (.slice (cutA B o 64 cp) (r.length - 64) (cp - 64)) (fun x hx => by have := hne9 x hx; show x.block ≠ G; omega)
        have hjb : 64 * (j + 1) ≤ b.length := by have := HR.out; rw [this, List.length_drop] at hlt; omega
        have I9 : WInv w G b (w8.setCell ⟨G, 8, none⟩ (.slice (cutA B o 64 cp) (r.length - 64) (cp - 64))) := ⟨blk s r, j + 1, _, _, _, blk_length _ _, hjb, by rw [hl64]; exact H9, by rw [hd64]; exact R9, by rw [hl64]; omega, by omega, hne9, by rw [hd64]; exact hrun2, B9⟩
        have L9 : restLen G (w8.setCell ⟨G, 8, none⟩ (.slice (cutA B o 64 cp) (r.length - 64) (cp - 64))) < restLen G wr := by rw [restLen_of H9.re, restLen_of HHr.out.re]; omega
        have II := Lib.hid I9
        have LL := Lib.hid L9
        clear hl64 hd64 hcut hrun2 H9 B9 hne9 R9 I9 L9 hjb
        go_wp2_with fail
        go_roundw
        case rel => exact II.out
        case measure => exact LL.out
      · have HK := Lib.hid hK
        clear hK
        go_simp
        refine HK.out _ _ ?_
        clear HK K
        try simp only [Act.put, List.getElem_toArray, List.getElem_cons_zero, List.getElem_cons_succ, List.setIfInBounds_toArray, List.set_cons_zero, List.set_cons_succ]
        refine wpAny_ready (rs := [4]) (by kernel_rfl) (by simp) ?_
        refine AllReady.cons (o := _) rfl (fun K hK => ?_) AllReady.nil
        have HK := Lib.hid hK
        clear hK
        rw [if_pos (by rfl)]
        refine wp_load_mid _ _ rfl G 0 (by rfl) (s.map vW) _ HST.out hut rfl hinfo ?_
        refine HK.out _ _ ?_
        clear HK K
        simp only [Act.put, List.getElem_toArray, List.getElem_cons_zero, List.getElem_cons_succ, List.setIfInBounds_toArray, List.set_cons_zero, List.set_cons_succ]
        refine wpAny_ready (rs := [9]) (by kernel_rfl) (by simp) ?_
        refine AllReady.cons (o := _) rfl (fun K hK => ?_) AllReady.nil
        have HK := Lib.hid hK
        clear hK
        go_simp
        go_at_call 134
        refine HBCC.out.mono ?_
        rintro e w7 ⟨rfl, hb7⟩
        dsimp only
        refine HK.out _ _ ?_
        clear HK K
        try simp only [Act.put, List.getElem_toArray, List.getElem_cons_zero, List.getElem_cons_succ, List.setIfInBounds_toArray, List.set_cons_zero, List.set_cons_succ]
        refine wpAny_take (i := 10) (oi := _) (v := .pointer (some ⟨G, 0, none⟩)) rfl (by kernel_rfl) (by kernel_rfl) (by kernel_rfl) (fun _ _ _ h => h) (.inl ⟨by rfl, fun w => by go_simp⟩) ?_
        simp only [Act.put, List.getElem_toArray, List.getElem_cons_zero, List.getElem_cons_succ, List.setIfInBounds_toArray, List.set_cons_zero, List.set_cons_succ]
        refine wpAny_take (i := 11) (oi := _) (v := .pointer (some ⟨G, 0, none⟩)) rfl (by kernel_rfl) (by kernel_rfl) (by kernel_rfl) (fun _ _ _ h => h) (.inl ⟨by rfl, fun w => by go_simp⟩) ?_
        simp only [Act.put, List.getElem_toArray, List.getElem_cons_zero, List.getElem_cons_succ, List.setIfInBounds_toArray, List.set_cons_zero, List.set_cons_succ]
        have h7 := HHr.out.drew.below hb7 HHr.out.lt
        have th7 := h7.there HSL.out
        have h8 := h7.setState HSL.out (blk_length s r)
        have b8 : Below G w (w7.setCells G 0 ((blk s r).map vW)) := below_setCellsH _ 0 (HBL.out.drew.trans (hb7.mono (Nat.le_of_lt HHr.out.lt))) (Nat.le_refl _)
        have r8 : Rd (w7.setCells G 0 ((blk s r).map vW)) (some ⟨B, o, none⟩) er (r.map vB) := (HRR.out.drew.below hb7).of_block (fun x hx _ => by obtain rfl := Option.some.inj hx; exact heap_setCells_otherH (by show B ≠ G; omega) _ _ _)
        have TH7 := Lib.hid th7
        have H8 := Lib.hid h8
        have B8 := Lib.hid b8
        have R8 := Lib.hid r8
        have i8 := info_st (blk s r) (blk_length s r)
        have c88 := h8.re
        have f88 := h8.fz 8
        have CUT := fun w => run_cut B o r.length cp 64 hlt w
        clear HBCC hb7 h7 th7 h8 b8 r8 c8 c9
        obtain ⟨w8, hw8⟩ : ∃ x, x = w7.setCells G 0 ((blk s r).map vW) := ⟨_, rfl⟩
        rw [← hw8] at H8 B8 R8 c88 f88
        have HW8 := Lib.hid hw8
        clear hw8
        refine wpAny_ready (rs := [12]) (by kernel_rfl) (by simp) ?_
        refine AllReady.cons (o := _) rfl (fun K hK => ?_) AllReady.nil
        have HK := Lib.hid hK
        clear hK
        rw [if_pos (by rfl)]
        refine wp_store_mid _ _ _ rfl G 0 (rW (blk s r)) (by rfl) (by rfl) (by rw [rW_size, blk_length]; exact TH7.out) i8 (rW_one _) ?_
        rw [show (rW (blk s r)).toList = (blk s r).map vW from rfl, ← HW8.out]
        refine HK.out _ _ ?_
        clear HK K
        try simp only [Act.put, List.getElem_toArray, List.getElem_cons_zero, List.getElem_cons_succ, List.setIfInBounds_toArray, List.set_cons_zero, List.set_cons_succ]
        refine wpAny_done (by kernel_rfl) ?_ _
        have hl64 : (b.drop (64 * (j + 1))).length = r.length - 64 := by rw [List.length_drop, HR.out, List.length_drop]; omega
        have hd64 : b.drop (64 * (j + 1)) = r.drop 64 := by rw [HR.out, List.drop_drop]; congr 1
        have hcut := rd_cut (k := 64) R8.out hlt hc1
        have hrun2 : run (blk s r) (r.drop 64) = run h0 b := by rw [← HRUN.out, run_step (l := r) (by omega), blk_take s r]
        have H9 := H8.out.setRest (blk_length _ _) (.slice (cutA B o 64 cp) (r.length - 64) (cp - 64))
        have B9 := B8.out.setCell (p := ⟨G, 8, none⟩) (Nat.le_refl _) (.slice (cutA B o 64 cp) (r.length - 64) (cp - 64))
        have hne9 : ∀ x, cutA B o 64 cp = some x → G < x.block := by intro x hx; unfold cutA at hx; split at hx <;> (obtain rfl := Option.some.inj hx; exact hGB)
        have R9 := hcut.setCell ⟨G, 8, none⟩ (.slice (cutA B o 64 cp) (r.length - 64) (cp - 64)) (fun x hx => by have := hne9 x hx; show x.block ≠ G; omega)
        have hjb : 64 * (j + 1) ≤ b.length := by have := HR.out; rw [this, List.length_drop] at hlt; omega
        have I9 : WInv w G b (w8.setCell ⟨G, 8, none⟩ (.slice (cutA B o 64 cp) (r.length - 64) (cp - 64))) := ⟨blk s r, j + 1, _, _, _, blk_length _ _, hjb, by rw [hl64]; exact H9, by rw [hd64]; exact R9, by rw [hl64]; omega, by omega, hne9, by rw [hd64]; exact hrun2, B9⟩
        have L9 : restLen G (w8.setCell ⟨G, 8, none⟩ (.slice (cutA B o 64 cp) (r.length - 64) (cp - 64))) < restLen G wr := by rw [restLen_of H9.re, restLen_of HHr.out.re]; omega
        have II := Lib.hid I9
        have LL := Lib.hid L9
        clear hl64 hd64 hcut hrun2 H9 B9 hne9 R9 I9 L9 hjb
        go_wp2_with fail
        go_roundw
        case rel => exact II.out
        case measure => exact LL.out
    · have q1 : decide (64 ≤ r.length) = false := decide_eq_false hlt
      have hj : b.length / 64 * 64 = 64 * j := by omega
      have hs : s = run h0 b := by rw [← hrun, run_short (by omega)]
      have hfin : WriteTo w G b (.returned (.tuple #[])) wr := ⟨rfl, hbl, ad, cp, er, by rw [hj, ← hs, ← hr']; exact hh, by rw [hj, ← hr']; exact hrr, hne⟩
      have HF := Lib.hid hfin
      clear hrl hr' hsl hrun hbl hh hfin hs hj
      go_wp2_with fail
      go_end0
      exact HF.out
end Go.Proofs.YtkioddmhjbaleaaDoor
