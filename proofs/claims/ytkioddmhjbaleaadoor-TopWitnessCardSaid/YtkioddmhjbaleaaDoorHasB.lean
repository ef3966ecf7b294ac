/- Walk: (*sha.Hasher).Write on one whose rest is empty, and what its spare cells are. -/
import Derived.Test.YtkioddmhjbaleaaDoorHasA
import Derived.Test.YtkioddmhjbaleaaDoorArrA
import Derived.ArgAppend
namespace Go.Proofs.YtkioddmhjbaleaaDoor
open Go.RowKit
set_option linter.unusedVariables false
set_option linter.unusedSimpArgs false
/-- behind a slice's address there are as many cells as it has capacity -/
def Sp (w : World) (ad : Option Addr) (cp : Nat) : Prop := (ad = none ∧ cp = 0) ∨ ∃ B o cur e, ad = some ⟨B, o, none⟩ ∧ w.heap[B]? = some (.cells cur e (0, 0)) ∧ o + cp ≤ cur.size
theorem Sp.of_block {w w' : World} {ad : Option Addr} {cp : Nat} (h : Sp w ad cp) (hb : ∀ x, ad = some x → w'.heap[x.block]? = w.heap[x.block]?) : Sp w' ad cp := by
  rcases h with h | ⟨B, o, cur, e, ha, hg, hs⟩
  · exact .inl h
  · exact .inr ⟨B, o, cur, e, ha, (hb _ ha).trans hg, hs⟩
theorem Sp.drew {w : World} {ad : Option Addr} {cp : Nat} (h : Sp w ad cp) : Sp w.drew ad cp := h
theorem Sp.below {w w' : World} {ad : Option Addr} {cp : Nat} (h : Sp w ad cp) (hb : Below w.heap.size w w') : Sp w' ad cp := by
  rcases h with h | ⟨B, o, cur, e, ha, hg, hs⟩
  · exact .inl h
  · exact .inr ⟨B, o, cur, e, ha, (hb.block B (lt_of_heap hg)).trans hg, hs⟩
theorem Sp.setCell {w : World} {ad : Option Addr} {cp : Nat} (h : Sp w ad cp) {p : Addr} (hp : ∀ x, ad = some x → x.block ≠ p.block) (u : Value) : Sp (w.setCell p u) ad cp :=
  h.of_block fun x hx => Below.heap_setCell _ _ _ _ (hp x hx)
theorem Sp.cut {w : World} {B o cp k : Nat} (h : Sp w (some ⟨B, o, none⟩) cp) (hk : k ≤ cp) : Sp w (cutA B o k cp) (cp - k) := by
  rcases h with ⟨h, _⟩ | ⟨B', o', cur, e, ha, hg, hs⟩
  · cases h
  · simp only [Option.some.injEq, Addr.mk.injEq] at ha
    obtain ⟨rfl, rfl, _⟩ := ha
    unfold cutA
    split
    · exact .inr ⟨B, o, cur, e, rfl, hg, by omega⟩
    · exact .inr ⟨B, o + k, cur, e, rfl, hg, by omega⟩
theorem heap_setCells {g : Nat} : ∀ (vs : List Value) (w : World) (o : Nat) (cur : Array Value) (t : TypeId) (fr : Nat × Nat), w.heap[g]? = some (.cells cur t fr) → (w.setCells g o vs).heap[g]? = some (.cells (setRange cur.toList o vs).toArray t fr)
  | [], w, o, cur, t, fr, h => by simpa [setRange, World.setCells] using h
  | v :: vs, w, o, cur, t, fr, h => by
    have h1 : (w.setCell ⟨g, o, none⟩ v).heap[g]? = some (.cells (cur.setIfInBounds o v) t fr) := by simp [World.setCell, Array.getElem?_modify, h]
    have := heap_setCells vs _ (o + 1) _ t fr h1
    rw [Array.toList_setIfInBounds] at this
    exact this
theorem own_facts {w : World} {base : Nat} {e : TypeId} {v : Value} {m : Nat} {b : List UInt8} (h : w.ownsRow base e 1 v m (b.map vB)) (hm : 0 < m) :
    ∃ g cp, v = .slice (some ⟨g, 0, none⟩) m cp ∧ base ≤ g ∧ Rd w (some ⟨g, 0, none⟩) e (b.map vB) ∧ Sp w (some ⟨g, 0, none⟩) cp ∧ m ≤ cp ∧ cp ≤ 9223372036854775807 := by
  obtain ⟨av, cap, rfl⟩ := own_slice h
  have hr := Rd.of_own h
  rcases h.2 with ⟨h2, h3⟩ | ⟨g, cp, cur, hv, hg, hh, h1, h2, h3, _⟩
  · omega
  · simp only [Value.slice.injEq] at hv
    obtain ⟨rfl, _, rfl⟩ := hv
    exact ⟨g, cap, rfl, hg, hr, .inr ⟨g, 0, cur, e, rfl, hh, by omega⟩, h1, by simp only [maxLen] at h2; exact h2⟩
section
variable {ops : Array Oper} {rest : List Oper} {o : Oper} {a : Act} {w : World} {Q : Exit → Act → World → Prop}
/-- bytes appended to a slice without elements, in its spare cells or in a row of their own -/
theorem appTail (hgd : o.guard = none) (s x : Operand) (ho : o.op = .call { callee := .builtin .append, args := #[s, x], argTypes := #[67, 67] })
    (G : Nat) (ad0 : Option Addr) (cp0 : Nat) (hs : a.eval s = .slice ad0 0 cp0) (hsp : Sp w ad0 cp0) (hG : ∀ x, ad0 = some x → G < x.block) (hc0 : cp0 ≤ 9223372036854775807)
    (ad : Addr) (m c : Nat) (b : List UInt8) (hx : a.eval x = .slice (some ad) m c) (es : TypeId) (hu : Rd w (some ad) es (b.map vB)) (hl : b.length = m) (hm : 0 < m) (hn : m ≤ 140737488355328) (hGw : G < w.heap.size)
    (h : ∀ B o' cp w' e', Rd w' (some ⟨B, o', none⟩) e' (b.map vB) → Sp w' (some ⟨B, o', none⟩) cp → Below (G + 1) w w' → m ≤ cp → cp ≤ 9223372036854775807 → G < B → wpList Tryd.prog ops Q rest (a.put o.dst (.slice (some ⟨B, o', none⟩) m cp)) w') : wpList Tryd.prog ops Q (o :: rest) a w := by
  obtain ⟨i, hi, hz, hsz, hb⟩ := info_parts info_byte
  have hlen : (b.map vB).length = m * 1 := by rw [List.length_map, hl, Nat.mul_one]
  have grow : ∀ v' w', w'.ownsRow w.heap.size 5 1 v' (0 + m) ([] ++ b.map vB) → w.grownBy w' none → wpList Tryd.prog ops Q rest (a.put o.dst v') w' := by
    intro v' w' hown hg
    rw [Nat.zero_add, List.nil_append] at hown
    obtain ⟨g, cp, rfl, h1, h2, h3, h4, h5⟩ := own_facts hown hm
    exact h g 0 cp w' _ h2 h3 ((Below.refl _ w).grown hg (by omega) (fun j hj => by cases hj)) h4 h5 (by omega)
  cases ad0 with
  | none =>
    have hcp : cp0 = 0 := by
      rcases hsp with h | ⟨B, o', cur, e, h, _⟩
      · exact h.2
      · cases h
    subst hcp
    exact wpList_append_grows w hgd s x _ ho 5 i (.int .u8 0) 1 1 Tryd.underlying67 hi hz hsz hb rfl (by omega) none 0 0 [] hs (fun _ => ⟨rfl, rfl⟩) rfl (fun _ h => by cases h) ad m c (b.map vB) hx hlen hu.news (one_bytes b) (by omega) (by simp only [maxLen]; omega) (by omega) grow
  | some ad0 =>
    rcases hsp with ⟨h0, _⟩ | ⟨B, o', cur, e, h0, hg, hsize⟩
    · cases h0
    · obtain rfl := Option.some.inj h0
      have hGB : G < B := hG _ rfl
      have hspare : 0 + m ≤ cp0 → ∀ j, j < (b.map vB).length → (w.cell? ⟨B, o' + 0 * 1 + j, none⟩).isSome = true ∧ w.frozen? ⟨B, o' + 0 * 1 + j, none⟩ = false := by
        intro hr j hj
        rw [hlen] at hj
        refine ⟨?_, frozen_of_row w B _ cur e hg⟩
        rw [cell_of_row w B _ cur e _ hg]
        simp only [Array.getElem?_eq_getElem (show o' + 0 * 1 + j < cur.size by omega), Option.isSome_some]
      refine wpList_append_arg w hgd s x _ ho 5 i (.int .u8 0) 1 1 Tryd.underlying67 hi hz hsz hb rfl (by omega) B o' 0 cp0 [] hs rfl (fun j u hj => by simp at hj) ad m c (b.map vB) hx hlen hu.news (one_bytes b) hspare (by simp only [maxLen]; omega) (by omega) (fun hr => ?_) (fun _ => grow)
      have hh := heap_setCells (b.map vB) w (o' + 0 * 1) cur e (0, 0) hg
      rw [Nat.zero_mul, Nat.add_zero] at hh ⊢
      rw [Nat.zero_add]
      have hfit : o' + (b.map vB).length ≤ cur.toList.length := by rw [hlen, Array.length_toList]; omega
      refine h B o' cp0 _ e (.inr ⟨B, o', _, (0, 0), rfl, hh, fun i hi => ?_⟩) (.inr ⟨B, o', _, e, rfl, hh, by rw [List.size_toArray, setRange_length, Array.length_toList]; exact hsize⟩) (below_setCells _ o' (Below.refl _ _) (by omega)) (by omega) hc0 hGB
      rw [List.getElem?_toArray, setRange_get _ _ _ _ hfit, if_pos (by omega), show o' + i - o' = i by omega, List.getElem?_eq_getElem hi]
end
/-- what a second Write leaves -/
def WriteTo2 (w : World) (G : Nat) (s0 : List UInt32) (n0 : Nat) (b : List UInt8) (e : Ending) (w' : World) : Prop :=
  e = .returned (.tuple #[]) ∧ Below G w w' ∧ ∃ ad cp er, Has w' G (run s0 b) (.slice ad (b.drop (b.length / 64 * 64)).length cp) ((n0 + b.length : Nat) : Int) ∧ Rd w' ad er ((b.drop (b.length / 64 * 64)).map vB) ∧ (∀ x, ad = some x → G < x.block) ∧ Sp w' ad cp ∧ cp ≤ 9223372036854775807
def WInv2 (w : World) (G : Nat) (s0 : List UInt32) (n0 : Nat) (b : List UInt8) (wr : World) : Prop :=
  ∃ (s : List UInt32) (j : Nat) (ad : Option Addr) (cp er : Nat), s.length = 8 ∧ 64 * j ≤ b.length ∧ Has wr G s (.slice ad (b.drop (64 * j)).length cp) ((n0 + b.length : Nat) : Int) ∧ Rd wr ad er ((b.drop (64 * j)).map vB) ∧ (b.drop (64 * j)).length ≤ cp ∧ cp ≤ 9223372036854775807 ∧ (∀ x, ad = some x → G < x.block) ∧ run s (b.drop (64 * j)) = run s0 b ∧ Below G w wr ∧ Sp wr ad cp
set_option maxRecDepth 100000 in
set_option maxHeartbeats 4000000 in
theorem Hwrite2_calls (s0 : List UInt32) (hs0 : s0.length = 8) (n0 : Nat) (ad0 : Option Addr) (cp0 : Nat) (b : List UInt8) (hb0 : 0 < b.length) (a : Option Addr) (cap e : Nat) (G : Nat) (w : World) (hh : Has w G s0 (.slice ad0 0 cp0) (n0 : Int)) (hsp : Sp w ad0 cp0) (hcp : cp0 ≤ 9223372036854775807) (hne : ∀ x, ad0 = some x → G < x.block)
    (hr : Rd w a e (b.map vB)) (ha : ∀ x, a = some x → x.block ≠ G) (hl : n0 + b.length ≤ 140737488355328) (hro : RoundsAt w) (hgs : 1 < G) :
    Calls Tryd.prog 107 #[.pointer (some ⟨G, 0, none⟩), .slice a b.length cap] w (WriteTo2 w G s0 n0 b) := by
  obtain ⟨nn, hnn⟩ : ∃ nn : Nat, nn = n0 + b.length := ⟨_, rfl⟩
  have hrs : Rd (w.setCell ⟨G, 9, none⟩ (.int .i64 (nn : Int))) a e (b.map vB) := hr.setCell _ _ (fun x hx => ha x hx)
  have hsps : Sp (w.setCell ⟨G, 9, none⟩ (.int .i64 (nn : Int))) ad0 cp0 := hsp.setCell (fun x hx => by have := hne x hx; show x.block ≠ G; omega) _
  obtain ⟨Ba, oa, rfl, _, _⟩ := hr.bytes (k := 0) hb0
  have c8 := hh.re
  have c9 := hh.nn
  have f8 := hh.fz 8
  have f9 := hh.fz 9
  have hGw := hh.lt
  have HH := Lib.hid hh
  have HRO := Lib.hid hro
  have HNE := Lib.hid hne
  have HRS := Lib.hid hrs
  have HSPS := Lib.hid hsps
  have HNN := Lib.hid hnn
  have wn : IntKind.i64.wrap ((n0 : Int) + (b.length : Int)) = (nn : Int) := by rw [IntWalk.i64_in _ (by omega)]; omega
  have wn2 : (n0 : Int) + (b.length : Int) = (nn : Int) := by omega
  have hl1 : b.length ≤ 140737488355328 := by omega
  clear hh hro hne hr ha hsp hrs hsps hnn
  go_enter Tryd.func107, Tryd.ntmps107
  go_wp2_with (first
    | (at_builtin; refine appTail rfl (.tmp 17) (.tmp 18) (by rfl) G ad0 cp0 (by rfl) HSPS.out HNE.out hcp ⟨Ba, oa, none⟩ b.length cap b (by rfl) e HRS.out rfl hb0 hl1 (by simp [World.setCell]; exact hGw) ?_; intro B o cp w3 e3 r3 sp3 hb3 hm3 hc3 hGB; have h3 := (HH.out.setN hs0 (nn : Int)).below hb3 (Nat.lt_succ_self G); have c8x := h3.re; have f8x := h3.fz 8; have H3 := Lib.hid h3; have HB3 := Lib.hid hb3; have R3 := Lib.hid r3; have SP3 := Lib.hid sp3; clear h3 hb3 r3 sp3))
  clear c8 c9 f8 f9 c8x f8x wn wn2
  have H4 := H3.out.setRest hs0 (.slice (some ⟨B, o, none⟩) b.length cp)
  have B4 : Below G w (w3.setCell ⟨G, 8, none⟩ (.slice (some ⟨B, o, none⟩) b.length cp)) := (((Below.refl G w).setCell (p := ⟨G, 9, none⟩) (Nat.le_refl _) _).trans (HB3.out.mono (Nat.le_succ G))).setCell (Nat.le_refl _) _
  have N4 : ∀ x, (some (⟨B, o, none⟩ : Addr)) = some x → G < x.block := fun x hx => by obtain rfl := Option.some.inj hx; exact hGB
  have R4 : Rd (w3.setCell ⟨G, 8, none⟩ (.slice (some ⟨B, o, none⟩) b.length cp)) (some ⟨B, o, none⟩) e3 (b.map vB) := R3.out.setCell _ _ (fun x hx => by have := N4 x hx; show x.block ≠ G; omega)
  have SP4 : Sp (w3.setCell ⟨G, 8, none⟩ (.slice (some ⟨B, o, none⟩) b.length cp)) (some ⟨B, o, none⟩) cp := SP3.out.setCell (fun x hx => by have := N4 x hx; show x.block ≠ G; omega) _
  obtain ⟨w4, hw4⟩ : ∃ w4, w4 = w3.setCell ⟨G, 8, none⟩ (.slice (some ⟨B, o, none⟩) b.length cp) := ⟨_, rfl⟩
  rw [← hw4] at H4 B4 R4 SP4 ⊢
  rw [HNN.out] at H4
  have I4 : WInv2 w G s0 n0 b w4 := ⟨s0, 0, some ⟨B, o, none⟩, cp, _, hs0, by omega, by simpa using H4, by simpa using R4, by simpa using hm3, hc3, N4, by simp, B4, SP4⟩
  have HI4 := Lib.hid I4
  clear H4 B4 N4 R4 SP4 hw4 I4
  go_loopw [] (fun wr => WInv2 w G s0 n0 b wr) (fun wr => restLen G wr)
  case atStart => exact HI4.out
  case round =>
    obtain ⟨s, j, ad, cp, er, hsl, hjl, hh, hrr, hc1, hc2, hne, hrun, hbl, hsp⟩ := hrel
    have HSP := Lib.hid hsp
    clear hsp
    obtain ⟨r, hr'⟩ : ∃ r, r = b.drop (64 * j) := ⟨_, rfl⟩
    rw [← hr'] at hh hrr hc1 hrun
    have hrl : r.length = b.length - 64 * j := by rw [hr', List.length_drop]
    have c8 := hh.re
    have c9 := hh.nn
    have HHr := Lib.hid hh
    have HR := Lib.hid hr'
    have HSL := Lib.hid hsl
    have HRUN := Lib.hid hrun
    have HBL := Lib.hid hbl
    have hrl47 : r.length ≤ 140737488355328 := by omega
    by_cases hlt : 64 ≤ r.length
    · have q1 : decide (64 ≤ r.length) = true := decide_eq_true hlt
      clear hrl hr' hsl hrun hbl hh
      go_wp2_with fail
      obtain ⟨B, o, hBo, hB, _⟩ := hrr.bytes (k := 0) (by omega)
      obtain rfl := hBo
      have hGB : G < B := hne _ rfl
      obtain ⟨t5, f5, hro5⟩ := HRO.out
      have hro6 : RoundsAt wr := ⟨t5, f5, (HBL.out.block _ hgs).trans hro5⟩
      have BC := Block_calls s HSL.out r hlt (some ⟨B, o, none⟩) cp er wr.drew hrr.drew (by omega) hro6 (Nat.lt_trans hgs HHr.out.lt)
      have hst := HHr.out.st
      have hinfo : (Tryd.prog.info? 203).map (·.size) = some (s.map vW).length := by have := info_st s HSL.out; rw [rW_size] at this; rw [List.length_map]; exact this
      have hut := Tryd.underlying203
      have HBC := Lib.hid hro6
      clear hro5 hro6
      have HST := Lib.hid hst
      have HBCC := Lib.hid BC
      have HRR := Lib.hid hrr
      clear hst BC hrr
      refine wp_region_any (by kernel_rfl) ?_
      change wpAny _ _ _ _ _ _ _ wr.drew
      refine wpAny_take (i := 0) (oi := _) (v := .pointer (some ⟨G, 0, none⟩)) rfl (by kernel_rfl) (by kernel_rfl) (by kernel_rfl) (fun _ _ _ h => h) (.inl ⟨by rfl, fun w => by go_simp⟩) ?_
      simp only [Act.put, List.getElem_toArray, List.getElem_cons_zero, List.getElem_cons_succ, List.setIfInBounds_toArray, List.set_cons_zero, List.set_cons_succ]
      refine wpAny_take (i := 1) (oi := _) (v := .pointer (some ⟨G, 0, none⟩)) rfl (by kernel_rfl) (by kernel_rfl) (by kernel_rfl) (fun _ _ _ h => h) (.inl ⟨by rfl, fun w => by go_simp⟩) ?_
      simp only [Act.put, List.getElem_toArray, List.getElem_cons_zero, List.getElem_cons_succ, List.setIfInBounds_toArray, List.set_cons_zero, List.set_cons_succ]
      refine wpAny_take (i := 2) (oi := _) (v := .pointer (some ⟨G, 0, none⟩)) rfl (by kernel_rfl) (by kernel_rfl) (by kernel_rfl) (fun _ _ _ h => h) (.inl ⟨by rfl, fun w => by go_simp⟩) ?_
      simp only [Act.put, List.getElem_toArray, List.getElem_cons_zero, List.getElem_cons_succ, List.setIfInBounds_toArray, List.set_cons_zero, List.set_cons_succ]
      refine wpAny_take (i := 3) (oi := _) (v := .pointer (some ⟨G, 0, none⟩)) rfl (by kernel_rfl) (by kernel_rfl) (by kernel_rfl) (fun _ _ _ h => h) (.inl ⟨by rfl, fun w => by go_simp⟩) ?_
      simp only [Act.put, List.getElem_toArray, List.getElem_cons_zero, List.getElem_cons_succ, List.setIfInBounds_toArray, List.set_cons_zero, List.set_cons_succ]
      refine wpAny_take (i := 5) (oi := _) (v := .pointer (some ⟨G, 0, none⟩)) rfl (by kernel_rfl) (by kernel_rfl) (by kernel_rfl) (fun _ _ _ h => h) (.inl ⟨by rfl, fun w => by go_simp⟩) ?_
      simp only [Act.put, List.getElem_toArray, List.getElem_cons_zero, List.getElem_cons_succ, List.setIfInBounds_toArray, List.set_cons_zero, List.set_cons_succ]
      refine wpAny_take (i := 6) (oi := _) (v := .pointer (some ⟨G, 0, none⟩)) rfl (by kernel_rfl) (by kernel_rfl) (by kernel_rfl) (fun _ _ _ h => h) (.inl ⟨by rfl, fun w => by go_simp⟩) ?_
      simp only [Act.put, List.getElem_toArray, List.getElem_cons_zero, List.getElem_cons_succ, List.setIfInBounds_toArray, List.set_cons_zero, List.set_cons_succ]
      refine wpAny_take (i := 7) (oi := _) (v := .pointer (some ⟨G, 8, none⟩)) rfl (by kernel_rfl) (by kernel_rfl) (by kernel_rfl) (fun _ _ _ h => h) (.inl ⟨by rfl, fun w => by go_simp⟩) ?_
      simp only [Act.put, List.getElem_toArray, List.getElem_cons_zero, List.getElem_cons_succ, List.setIfInBounds_toArray, List.set_cons_zero, List.set_cons_succ]
      refine wpAny_ready (rs := [4, 8]) (by kernel_rfl) (by simp) ?_
      refine AllReady.cons (o := _) rfl (fun K hK => ?_) (AllReady.cons (o := _) rfl (fun K hK => ?_) AllReady.nil)
      · have HK := Lib.hid hK
        clear hK
        rw [if_pos (by rfl)]
        refine wp_load_mid _ _ rfl G 0 (by rfl) (s.map vW) _ HST.out hut rfl hinfo ?_
        refine HK.out _ _ ?_
        clear HK K
        simp only [Act.put, List.getElem_toArray, List.getElem_cons_zero, List.getElem_cons_succ, List.setIfInBounds_toArray, List.set_cons_zero, List.set_cons_succ]
        refine wpAny_ready (rs := [8]) (by kernel_rfl) (by simp) ?_
        refine AllReady.cons (o := _) rfl (fun K hK => ?_) AllReady.nil
        have HK := Lib.hid hK
        clear hK
        go_simp
        refine HK.out _ _ ?_
        clear HK K
        try simp only [Act.put, List.getElem_toArray, List.getElem_cons_zero, List.getElem_cons_succ, List.setIfInBounds_toArray, List.set_cons_zero, List.set_cons_succ]
        refine wpAny_ready (rs := [9]) (by kernel_rfl) (by simp) ?_
        refine AllReady.cons (o := _) rfl (fun K hK => ?_) AllReady.nil
        have HK := Lib.hid hK
        clear hK
        go_simp
        go_at_call 134
        refine HBCC.out.mono ?_
        rintro e w7 ⟨rfl, hb7⟩
        dsimp only
        refine HK.out _ _ ?_
        clear HK K
        try simp only [Act.put, List.getElem_toArray, List.getElem_cons_zero, List.getElem_cons_succ, List.setIfInBounds_toArray, List.set_cons_zero, List.set_cons_succ]
        refine wpAny_take (i := 10) (oi := _) (v := .pointer (some ⟨G, 0, none⟩)) rfl (by kernel_rfl) (by kernel_rfl) (by kernel_rfl) (fun _ _ _ h => h) (.inl ⟨by rfl, fun w => by go_simp⟩) ?_
        simp only [Act.put, List.getElem_toArray, List.getElem_cons_zero, List.getElem_cons_succ, List.setIfInBounds_toArray, List.set_cons_zero, List.set_cons_succ]
        refine wpAny_take (i := 11) (oi := _) (v := .pointer (some ⟨G, 0, none⟩)) rfl (by kernel_rfl) (by kernel_rfl) (by kernel_rfl) (fun _ _ _ h => h) (.inl ⟨by rfl, fun w => by go_simp⟩) ?_
        simp only [Act.put, List.getElem_toArray, List.getElem_cons_zero, List.getElem_cons_succ, List.setIfInBounds_toArray, List.set_cons_zero, List.set_cons_succ]
        have h7 := HHr.out.drew.below hb7 HHr.out.lt
        have th7 := h7.there HSL.out
        have h8 := h7.setState HSL.out (blk_length s r)
        have b8 : Below G w (w7.setCells G 0 ((blk s r).map vW)) := below_setCellsH _ 0 (HBL.out.drew.trans (hb7.mono (Nat.le_of_lt HHr.out.lt))) (Nat.le_refl _)
        have r8 : Rd (w7.setCells G 0 ((blk s r).map vW)) (some ⟨B, o, none⟩) er (r.map vB) := (HRR.out.drew.below hb7).of_block (fun x hx _ => by obtain rfl := Option.some.inj hx; exact heap_setCells_otherH (by show B ≠ G; omega) _ _ _)
        have TH7 := Lib.hid th7
        have H8 := Lib.hid h8
        have B8 := Lib.hid b8
        have R8 := Lib.hid r8
        have SP8 := Lib.hid (show Sp (w7.setCells G 0 ((blk s r).map vW)) (some ⟨B, o, none⟩) cp from (HSP.out.drew.below hb7).of_block (fun x hx => by obtain rfl := Option.some.inj hx; exact heap_setCells_otherH (by show B ≠ G; omega) _ _ _))
        have i8 := info_st (blk s r) (blk_length s r)
        have c88 := h8.re
        have f88 := h8.fz 8
        have CUT := fun w => run_cut B o r.length cp 64 hlt w
        clear HBCC hb7 h7 th7 h8 b8 r8 c8 c9
        obtain ⟨w8, hw8⟩ : ∃ x, x = w7.setCells G 0 ((blk s r).map vW) := ⟨_, rfl⟩
        rw [← hw8] at H8 B8 R8 c88 f88 SP8
        have SPW8 := SP8
        have HW8 := Lib.hid hw8
        clear hw8
        refine wpAny_ready (rs := [12]) (by kernel_rfl) (by simp) ?_
        refine AllReady.cons (o := _) rfl (fun K hK => ?_) AllReady.nil
        have HK := Lib.hid hK
        clear hK
        rw [if_pos (by rfl)]
        refine wp_store_mid _ _ _ rfl G 0 (rW (blk s r)) (by rfl) (by rfl) (by rw [rW_size, blk_length]; exact TH7.out) i8 (rW_one _) ?_
        rw [show (rW (blk s r)).toList = (blk s r).map vW from rfl, ← HW8.out]
        refine HK.out _ _ ?_
        clear HK K
        try simp only [Act.put, List.getElem_toArray, List.getElem_cons_zero, List.getElem_cons_succ, List.setIfInBounds_toArray, List.set_cons_zero, List.set_cons_succ]
        refine wpAny_done (by kernel_rfl) ?_ _
        have hl64 : (b.drop (64 * (j + 1))).length = r.length - 64 := by rw [List.length_drop, HR.out, List.length_drop]; omega
        have hd64 : b.drop (64 * (j + 1)) = r.drop 64 := by rw [HR.out, List.drop_drop]; congr 1
        have hcut := rd_cut (k := 64) R8.out hlt hc1
        have hrun2 : run (blk s r) (r.drop 64) = run s0 b := by rw [← HRUN.out, run_step (l := r) (by omega), blk_take s r]
        have H9 := H8.out.setRest (blk_length _ _) (.slice (cutA B o 64 cp) (r.length - 64) (cp - 64))
        have B9 := B8.out.setCell (p := ⟨G, 8, none⟩) (Nat.le_refl _) (.slice (cutA B o 64 cp) (r.length - 64) (cp - 64))
        have hne9 : ∀ x, cutA B o 64 cp = some x → G < x.block := by intro x hx; unfold cutA at hx; split at hx <;> (obtain rfl := Option.some.inj hx; exact hGB)
        have R9 := hcut.setCell ⟨G, 8, none⟩ (.slice (cutA B o 64 cp) (r.length - 64) (cp - 64)) (fun x hx => by have := hne9 x hx; show x.block ≠ G; omega)
        have SP9 : Sp (w8.setCell ⟨G, 8, none⟩ (.slice (cutA B o 64 cp) (r.length - 64) (cp - 64))) (cutA B o 64 cp) (cp - 64) := (SPW8.out.cut (by omega)).setCell (fun x hx => by have := hne9 x hx; show x.block ≠ G; omega) _
        have hjb : 64 * (j + 1) ≤ b.length := by have := HR.out; rw [this, List.length_drop] at hlt; omega
        have I9 : WInv2 w G s0 n0 b (w8.setCell ⟨G, 8, none⟩ (.slice (cutA B o 64 cp) (r.length - 64) (cp - 64))) := ⟨blk s r, j + 1, _, _, _, blk_length _ _, hjb, by rw [hl64]; exact H9, by rw [hd64]; exact R9, by rw [hl64]; omega, by omega, hne9, by rw [hd64]; exact hrun2, B9, SP9⟩
        have L9 : restLen G (w8.setCell ⟨G, 8, none⟩ (.slice (cutA B o 64 cp) (r.length - 64) (cp - 64))) < restLen G wr := by rw [restLen_of H9.re, restLen_of HHr.out.re]; omega
        have II := Lib.hid I9
        have LL := Lib.hid L9
        clear hl64 hd64 hcut hrun2 H9 B9 hne9 R9 I9 L9 hjb
        go_wp2_with fail
        go_roundw
        case rel => exact II.out
        case measure => exact LL.out
      · have HK := Lib.hid hK
        clear hK
        go_simp
        refine HK.out _ _ ?_
        clear HK K
        try simp only [Act.put, List.getElem_toArray, List.getElem_cons_zero, List.getElem_cons_succ, List.setIfInBounds_toArray, List.set_cons_zero, List.set_cons_succ]
        refine wpAny_ready (rs := [4]) (by kernel_rfl) (by simp) ?_
        refine AllReady.cons (o := _) rfl (fun K hK => ?_) AllReady.nil
        have HK := Lib.hid hK
        clear hK
        rw [if_pos (by rfl)]
        refine wp_load_mid _ _ rfl G 0 (by rfl) (s.map vW) _ HST.out hut rfl hinfo ?_
        refine HK.out _ _ ?_
        clear HK K
        simp only [Act.put, List.getElem_toArray, List.getElem_cons_zero, List.getElem_cons_succ, List.setIfInBounds_toArray, List.set_cons_zero, List.set_cons_succ]
        refine wpAny_ready (rs := [9]) (by kernel_rfl) (by simp) ?_
        refine AllReady.cons (o := _) rfl (fun K hK => ?_) AllReady.nil
        have HK := Lib.hid hK
        clear hK
        go_simp
        go_at_call 134
        refine HBCC.out.mono ?_
        rintro e w7 ⟨rfl, hb7⟩
        dsimp only
        refine HK.out _ _ ?_
        clear HK K
        try simp only [Act.put, List.getElem_toArray, List.getElem_cons_zero, List.getElem_cons_succ, List.setIfInBounds_toArray, List.set_cons_zero, List.set_cons_succ]
        refine wpAny_take (i := 10) (oi := _) (v := .pointer (some ⟨G, 0, none⟩)) rfl (by kernel_rfl) (by kernel_rfl) (by kernel_rfl) (fun _ _ _ h => h) (.inl ⟨by rfl, fun w => by go_simp⟩) ?_
        simp only [Act.put, List.getElem_toArray, List.getElem_cons_zero, List.getElem_cons_succ, List.setIfInBounds_toArray, List.set_cons_zero, List.set_cons_succ]
        refine wpAny_take (i := 11) (oi := _) (v := .pointer (some ⟨G, 0, none⟩)) rfl (by kernel_rfl) (by kernel_rfl) (by kernel_rfl) (fun _ _ _ h => h) (.inl ⟨by rfl, fun w => by go_simp⟩) ?_
        simp only [Act.put, List.getElem_toArray, List.getElem_cons_zero, List.getElem_cons_succ, List.setIfInBounds_toArray, List.set_cons_zero, List.set_cons_succ]
        have h7 := HHr.out.drew.below hb7 HHr.out.lt
        have th7 := h7.there HSL.out
        have h8 := h7.setState HSL.out (blk_length s r)
        have b8 : Below G w (w7.setCells G 0 ((blk s r).map vW)) := below_setCellsH _ 0 (HBL.out.drew.trans (hb7.mono (Nat.le_of_lt HHr.out.lt))) (Nat.le_refl _)
        have r8 : Rd (w7.setCells G 0 ((blk s r).map vW)) (some ⟨B, o, none⟩) er (r.map vB) := (HRR.out.drew.below hb7).of_block (fun x hx _ => by obtain rfl := Option.some.inj hx; exact heap_setCells_otherH (by show B ≠ G; omega) _ _ _)
        have TH7 := Lib.hid th7
        have H8 := Lib.hid h8
        have B8 := Lib.hid b8
        have R8 := Lib.hid r8
        have SP8 := Lib.hid (show Sp (w7.setCells G 0 ((blk s r).map vW)) (some ⟨B, o, none⟩) cp from (HSP.out.drew.below hb7).of_block (fun x hx => by obtain rfl := Option.some.inj hx; exact heap_setCells_otherH (by show B ≠ G; omega) _ _ _))
        have i8 := info_st (blk s r) (blk_length s r)
        have c88 := h8.re
        have f88 := h8.fz 8
        have CUT := fun w => run_cut B o r.length cp 64 hlt w
        clear HBCC hb7 h7 th7 h8 b8 r8 c8 c9
        obtain ⟨w8, hw8⟩ : ∃ x, x = w7.setCells G 0 ((blk s r).map vW) := ⟨_, rfl⟩
        rw [← hw8] at H8 B8 R8 c88 f88 SP8
        have SPW8 := SP8
        have HW8 := Lib.hid hw8
        clear hw8
        refine wpAny_ready (rs := [12]) (by kernel_rfl) (by simp) ?_
        refine AllReady.cons (o := _) rfl (fun K hK => ?_) AllReady.nil
        have HK := Lib.hid hK
        clear hK
        rw [if_pos (by rfl)]
        refine wp_store_mid _ _ _ rfl G 0 (rW (blk s r)) (by rfl) (by rfl) (by rw [rW_size, blk_length]; exact TH7.out) i8 (rW_one _) ?_
        rw [show (rW (blk s r)).toList = (blk s r).map vW from rfl, ← HW8.out]
        refine HK.out _ _ ?_
        clear HK K
        try simp only [Act.put, List.getElem_toArray, List.getElem_cons_zero, List.getElem_cons_succ, List.setIfInBounds_toArray, List.set_cons_zero, List.set_cons_succ]
        refine wpAny_done (by kernel_rfl) ?_ _
        have hl64 : (b.drop (64 * (j + 1))).length = r.length - 64 := by rw [List.length_drop, HR.out, List.length_drop]; omega
        have hd64 : b.drop (64 * (j + 1)) = r.drop 64 := by rw [HR.out, List.drop_drop]; congr 1
        have hcut := rd_cut (k := 64) R8.out hlt hc1
        have hrun2 : run (blk s r) (r.drop 64) = run s0 b := by rw [← HRUN.out, run_step (l := r) (by omega), blk_take s r]
        have H9 := H8.out.setRest (blk_length _ _) (.slice (cutA B o 64 cp) (r.length - 64) (cp - 64))
        have B9 := B8.out.setCell (p := ⟨G, 8, none⟩) (Nat.le_refl _) (.slice (cutA B o 64 cp) (r.length - 64) (cp - 64))
        have hne9 : ∀ x, cutA B o 64 cp = some x → G < x.block := by intro x hx; unfold cutA at hx; split at hx <;> (obtain rfl := Option.some.inj hx; exact hGB)
        have R9 := hcut.setCell ⟨G, 8, none⟩ (.slice (cutA B o 64 cp) (r.length - 64) (cp - 64)) (fun x hx => by have := hne9 x hx; show x.block ≠ G; omega)
        have SP9 : Sp (w8.setCell ⟨G, 8, none⟩ (.slice (cutA B o 64 cp) (r.length - 64) (cp - 64))) (cutA B o 64 cp) (cp - 64) := (SPW8.out.cut (by omega)).setCell (fun x hx => by have := hne9 x hx; show x.block ≠ G; omega) _
        have hjb : 64 * (j + 1) ≤ b.length := by have := HR.out; rw [this, List.length_drop] at hlt; omega
        have I9 : WInv2 w G s0 n0 b (w8.setCell ⟨G, 8, none⟩ (.slice (cutA B o 64 cp) (r.length - 64) (cp - 64))) := ⟨blk s r, j + 1, _, _, _, blk_length _ _, hjb, by rw [hl64]; exact H9, by rw [hd64]; exact R9, by rw [hl64]; omega, by omega, hne9, by rw [hd64]; exact hrun2, B9, SP9⟩
        have L9 : restLen G (w8.setCell ⟨G, 8, none⟩ (.slice (cutA B o 64 cp) (r.length - 64) (cp - 64))) < restLen G wr := by rw [restLen_of H9.re, restLen_of HHr.out.re]; omega
        have II := Lib.hid I9
        have LL := Lib.hid L9
        clear hl64 hd64 hcut hrun2 H9 B9 hne9 R9 I9 L9 hjb
        go_wp2_with fail
        go_roundw
        case rel => exact II.out
        case measure => exact LL.out
    · have q1 : decide (64 ≤ r.length) = false := decide_eq_false hlt
      have hj : b.length / 64 * 64 = 64 * j := by omega
      have hs : s = run s0 b := by rw [← hrun, run_short (by omega)]
      have hfin : WriteTo2 w G s0 n0 b (.returned (.tuple #[])) wr := ⟨rfl, hbl, ad, cp, er, by rw [hj, ← hs, ← hr']; exact hh, by rw [hj, ← hr']; exact hrr, hne, HSP.out, hc2⟩
      have HF := Lib.hid hfin
      clear hrl hr' hsl hrun hbl hh hfin hs hj
      go_wp2_with fail
      go_end0
      exact HF.out
end Go.Proofs.YtkioddmhjbaleaaDoor
