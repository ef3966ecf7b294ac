/- Walk: span.Find. -/
import Derived.Test.YtpeomfehdccmmaaDoorFindLaws
import Derived.Test.YtpeomfehdccmmaaDoorSpanFitA
import Derived.Deep.RegionHeld3
import Derived.Deep.CutBlock
import Derived.Test.YtpeomfehdccmmaaDoorSpanRef
namespace Go.Proofs.YtpeomfehdccmmaaDoor
open Go.RowKit
set_option linter.unusedVariables false
set_option linter.unusedSimpArgs false

theorem info_rngF : (Tryd.prog.info? 61).map (·.size) = some 3 := by kernel_rfl
theorem info_dgs : (Tryd.prog.info? 24).map (fun i => (i.zero, i.size, i.bytes)) = some (some (.slice none 0 0), 1, 24) := by kernel_rfl
theorem ent_ne_dgs : (35 : TypeId) ≠ 24 := by decide
theorem ent_ne_dig : (35 : TypeId) ≠ 23 := by decide
theorem dgs_ne_dig : (24 : TypeId) ≠ 23 := by decide
theorem setCell_row {w : World} {b i : Nat} {cs : Array Value} {t : TypeId} {fr : Nat × Nat} (h : w.heap[b]? = some (.cells cs t fr)) (v : Value) : (w.setCell ⟨b, i, none⟩ v).heap[b]? = some (.cells (cs.setIfInBounds i v) t fr) := by
  rw [Sort.setCell_eq]
  unfold Sort.mapBlock
  simp only [Array.getElem?_modify, if_true, h, Option.map_some]
  rfl
theorem setCell_far {w : World} {b i g : Nat} (v : Value) (h : b ≠ g) : (w.setCell ⟨b, i, none⟩ v).heap[g]? = w.heap[g]? := by
  rw [Sort.setCell_eq]
  unfold Sort.mapBlock
  simp only [Array.getElem?_modify]
  rw [if_neg h]
theorem own_far {w w' : World} {base : Nat} {e : TypeId} {size : Nat} {v : Value} {n : Nat} {xs : List Value} (h : w.ownsRow base e size v n xs) (hb : ∀ g, base ≤ g → w'.heap[g]? = w.heap[g]?) : w'.ownsRow base e size v n xs := by
  refine ⟨h.1, ?_⟩
  rcases h.2 with h | ⟨g, cap, cur, h1, h2, h3, h4⟩
  · exact .inl h
  · exact .inr ⟨g, cap, cur, h1, h2, (hb g h2).trans h3, h4⟩
/-- paths, each in a row of its own of digests -/
def PathsT (w : World) (pss : List (List (List UInt8))) (vs : List Value) : Prop := vs.length = pss.length ∧ ∀ i, (h : i < pss.length) → (∀ d ∈ pss[i], d.length = 32) ∧ ∃ a c, vs[i]? = some (.slice a pss[i].length c) ∧ Rd w a 23 (pss[i].flatten.map vB)
theorem PathsT.at_ {w : World} {pss : List (List (List UInt8))} {vs : List Value} (h : PathsT w pss vs) : PathsAt w pss vs :=
  ⟨h.1, fun i hi => ⟨(h.2 i hi).1, by obtain ⟨a, c, h1, h2⟩ := (h.2 i hi).2; exact ⟨a, c, _, h1, h2⟩⟩⟩
theorem PathsT.map {w w' : World} {pss : List (List (List UInt8))} {vs : List Value} (h : PathsT w pss vs) (f : ∀ a vs, Rd w a 23 vs → Rd w' a 23 vs) : PathsT w' pss vs :=
  ⟨h.1, fun i hi => ⟨(h.2 i hi).1, by obtain ⟨a, c, h1, h2⟩ := (h.2 i hi).2; exact ⟨a, c, h1, f _ _ h2⟩⟩⟩
theorem PathsT.snoc {w : World} {pss : List (List (List UInt8))} {vs : List Value} (h : PathsT w pss vs) {p : List (List UInt8)} (hp : ∀ d ∈ p, d.length = 32) {a : Option Addr} {c : Nat} (hr : Rd w a 23 (p.flatten.map vB)) : PathsT w (pss ++ [p]) (vs ++ [.slice a p.length c]) := by
  refine ⟨by simp [h.1], fun i hi => ?_⟩
  by_cases hlt : i < pss.length
  · rw [List.getElem_append_left hlt, List.getElem?_append_left (by rw [h.1]; exact hlt)]
    exact h.2 i hlt
  · rw [List.length_append, List.length_singleton] at hi
    obtain rfl : i = pss.length := by omega
    rw [List.getElem_append_right (Nat.le_refl _), List.getElem?_append_right (by rw [h.1]; exact Nat.le_refl _)]
    simp only [Nat.sub_self, List.getElem_cons_zero, h.1, List.getElem?_cons_zero]
    exact ⟨hp, a, c, rfl, hr⟩
theorem Rd.other_type {w w' : World} {a : Option Addr} {e t : TypeId} {vs : List Value} {g : Nat} {c : Array Value} {fr : Nat × Nat} (h : Rd w a e vs) (hg : w.heap[g]? = some (.cells c t fr)) (hne : t ≠ e) (hk : ∀ b, b ≠ g → w'.heap[b]? = w.heap[b]?) : Rd w' a e vs := by
  rcases h with h | ⟨b, o, cur, fr1, rfl, hc, hi⟩
  · exact .inl h
  · refine .inr ⟨b, o, cur, fr1, rfl, (hk b fun e1 => ?_).trans hc, hi⟩
    subst e1
    rw [hc] at hg
    simp only [Option.some.injEq, Obj.cells.injEq] at hg
    exact hne hg.2.1.symm
/-- the two rows of a range that is made, and its paths' own -/
structure Made (w : World) (B : Nat) (v1 : Value) (n1 : Nat) (xs1 : List Value) (v2 : Value) (vs : List Value) (pss : List (List (List UInt8))) (pa : Option Addr) (ps : List Value) : Prop where
  one : w.ownsRow B 35 33 v1 n1 xs1
  two : w.ownsRow B 24 1 v2 vs.length vs
  paths : PathsT w pss (vs.take pss.length)
  new : Rd w pa 23 ps
  size : B ≤ w.heap.size
theorem Made.map {w w' : World} {B : Nat} {v1 : Value} {n1 : Nat} {xs1 : List Value} {v2 : Value} {vs : List Value} {pss : List (List (List UInt8))} {pa : Option Addr} {ps : List Value} (h : Made w B v1 n1 xs1 v2 vs pss pa ps) (hb : Below w.heap.size w w') : Made w' B v1 n1 xs1 v2 vs pss pa ps :=
  ⟨own_below h.one hb, own_below h.two hb, h.paths.map fun _ _ hr => hr.below hb, h.new.below hb, Nat.le_trans h.size hb.size⟩
theorem Made.app1 {w w' : World} {B : Nat} {v1 : Value} {n1 : Nat} {xs1 : List Value} {v2 : Value} {vs : List Value} {pss : List (List (List UInt8))} {pa : Option Addr} {ps : List Value} (h : Made w B v1 n1 xs1 v2 vs pss pa ps) {v1' : Value} {n1' : Nat} {xs1' : List Value} (hown : w'.ownsRow B 35 33 v1' n1' xs1') (hg : w.grownBy w' v1.ownBlock) (hs : w.heap.size ≤ w'.heap.size) : Made w' B v1' n1' xs1' v2 vs pss pa ps :=
  ⟨hown, own_kept_other h.two h.one ent_ne_dgs.symm hg, h.paths.map fun _ _ hr => hr.other_app h.one hg ent_ne_dig, h.new.other_app h.one hg ent_ne_dig, Nat.le_trans h.size hs⟩
theorem Made.app2 {w w' : World} {B : Nat} {v1 : Value} {n1 : Nat} {xs1 : List Value} {v2 : Value} {vs : List Value} {pss : List (List (List UInt8))} {pa : Option Addr} {ps : List Value} (h : Made w B v1 n1 xs1 v2 vs pss pa ps) (hps : pss.length ≤ vs.length) {v2' u : Value} (hown : w'.ownsRow B 24 1 v2' (vs.length + 1) (vs ++ [u])) (hg : w.grownBy w' v2.ownBlock) (hs : w.heap.size ≤ w'.heap.size) : Made w' B v1 n1 xs1 v2' (vs ++ [u]) pss pa ps :=
  ⟨own_kept_other h.one h.two ent_ne_dgs hg, by rw [List.length_append]; exact hown, by rw [List.take_append_of_le_length hps]; exact h.paths.map fun _ _ hr => hr.other_app h.two hg dgs_ne_dig, h.new.other_app h.two hg dgs_ne_dig, Nat.le_trans h.size hs⟩
/-- a slice of one that holds a slice -/
def F20 : Nat → Bool := fun j => j == 14 || j == 16
theorem F20_in : ∀ j, F20 j = true → j ∈ [14, 16] := fun j h => by
  unfold F20 at h
  simp only [Bool.or_eq_true, beq_iff_eq] at h
  simpa using h
def pthF (es : List En) (f k : Nat) : List (List (List UInt8)) := (List.range k).map fun j => tpath (leavesD es) (f + j)
theorem pthF_length (es : List En) (f k : Nat) : (pthF es f k).length = k := by simp [pthF]
theorem rng_one (x y z : Value) (hx : x.oneCell' = true) (hy : y.oneCell' = true) (hz : z.oneCell' = true) : (#[x, y, z] : Array Value).all (·.oneCell') = true := by simp [hx, hy, hz]
theorem rngz_one : (#[.int .i64 0, .slice none 0 0, .slice none 0 0] : Array Value).all (·.oneCell') = true := by simp [Value.oneCell']
def FindRet (w : World) (es : List En) (a b : Int) (e : Ending) (w' : World) : Prop :=
  (listF es ≠ 0 → e = .returned (.tuple #[.agg #[.int .i64 0, .slice none 0 0, .slice none 0 0], .iface 25 (.int .i64 (listF es))])) ∧
  (listF es = 0 → b < a → e = .returned (.tuple #[.agg #[.int .i64 0, .slice none 0 0, .slice none 0 0], .iface 25 (.int .i64 2)])) ∧
  (listF es = 0 → a ≤ b → ∃ (f t : Nat) (ia : Option Addr) (ic ie : Nat) (pa : Option Addr) (pc pe : Nat) (vs : List Value), FromIs es a f ∧ ToIs es b t ∧ e = .returned (.tuple #[.agg #[.int .i64 (f : Int), .slice ia (itemsF es f t).length ic, .slice pa (pathsF es f t).length pc], .nilIface]) ∧ Rd w' ia ie (cellsE (itemsF es f t)) ∧ Rd w' pa pe vs ∧ PathsAt w' (pathsF es f t) vs) ∧ Below w.heap.size w w'
theorem rng_load {w : World} {b : Nat} {x y z : Value} {fr : Nat × Nat} (h : w.heap[b]? = some (.cells #[x, y, z] 61 fr)) : (loadVar 61 ⟨b, 0, none⟩).run Tryd.prog w = .ok (.agg #[x, y, z]) w :=
  run_loadVar_mid w b 0 _ [x, y, z] _ (fun j v hj => by
    rw [Nat.zero_add, cell_of_row w b j _ _ fr h]
    simpa using hj) Tryd.underlying61 rfl info_rngF
set_option maxRecDepth 20000 in
set_option maxHeartbeats 8000000 in
theorem Find_calls (es : List En) (hw : ∀ e ∈ es, EnW e) (a : Option Addr) (cap ea : Nat) (hc : es.length ≤ 9223372036854775807) (lo hi : Int) (hlo : -9223372036854775808 ≤ lo ∧ lo ≤ 9223372036854775807) (hhi : -9223372036854775808 ≤ hi ∧ hi ≤ 9223372036854775807) (w : World) (hr : Rd w a ea (cellsE es)) (hro : RoundsAt w) :
    Calls Tryd.prog 41 #[.slice a es.length cap, .int .i64 lo, .int .i64 hi] w (FindRet w es lo hi) := by
  obtain ⟨H, hH⟩ : ∃ H, H = w.heap.size := ⟨_, rfl⟩
  obtain ⟨w0, hw0⟩ : ∃ z, z = w.alloc (.cells #[.int .i64 0, .slice none 0 0, .slice none 0 0] 61) := ⟨_, rfl⟩
  have q0 : w0.heap.size = H + 1 := by rw [hw0, hH]; exact World.size_alloc _ _
  have s0 : Below (H) w w0 := by rw [hw0, hH]; exact (Below.refl _ _).alloc (Nat.le_refl _) _
  have t0 : Below (H + 1) w0 w0 := Below.refl _ _
  have bL : Below H w w0 := s0.trans (t0.mono (by omega))
  have g0 : w0.heap[H]? = some (.cells #[.int .i64 0, .slice none 0 0, .slice none 0 0] 61 (0, 0)) := by
    have g : w0.heap[H]? = some (.cells #[.int .i64 0, .slice none 0 0, .slice none 0 0] 61 (0, 0)) := by rw [hw0, hH]; exact heap_alloc_new _ _
    exact (t0.block _ (by omega)).trans g
  have bW : Below w.heap.size w w0 := by rw [← hH]; exact bL
  have hsz : H < w0.heap.size := by omega
  have HH := Lib.hid hH
  have HW0 := Lib.hid hw0
  have BL := Lib.hid bL
  have BW := Lib.hid bW
  have QL := Lib.hid q0
  have G0 := Lib.hid g0
  clear hH hw0 q0 s0 t0 g0 bL bW
  have RO := Lib.hid (hro.at_ BW.out)
  have LC := Leaves_calls es hw a cap ea hc w0 (hr.below BW.out) (hro.at_ BW.out)
  have HL := Lib.hid (show ∀ e ∈ es, e.val.length = 32 from fun e he => (hw e he).1)
  have R0 := Lib.hid (hr.below BW.out)
  by_cases hf : listF es = 0
  · have LC2 := LC.mono fun e w' h => (⟨h.2.1 hf, h.2.2⟩ : (∃ (a : Option Addr) (cap : Nat), e = .returned (.tuple #[.slice a es.length cap, .nilIface]) ∧ w'.ownsRow w0.heap.size 23 32 (.slice a es.length cap) es.length ((leavesD es).flatten.map vB)) ∧ Below w0.heap.size w0 w')
    have HLC := Lib.hid LC2
    have HF := Lib.hid hf
    obtain ⟨h256, hko, hup⟩ := listF_ok hf
    have HUP := Lib.hid hup
    clear LC LC2 hf hko hup hr hro hw
    by_cases hba : hi < lo
    · have z1 : decide (hi < lo) = true := decide_eq_true hba
      have HBA := Lib.hid hba
      go_enter Tryd.func41, Tryd.ntmps41
      go_upto_region 1 with fail
      rw [← HH.out, ← HW0.out]
      go_wp2_with fail
      refine HLC.out.mono ?_
      rintro e w1 ⟨⟨al, cl, rfl, how⟩, hb1⟩
      have GZ := Lib.hid ((hb1.block H hsz).trans G0.out)
      have B1 := Lib.hid (BL.out.trans (hb1.mono (by omega)))
      clear hb1
      go_wp2_with ((refine wpList_store_row rfl _ (.tmp 6) (.tmp 28) rfl H #[.int .i64 0, .slice none 0 0, .slice none 0 0] (by rfl) (by rfl) _ #[.int .i64 0, .slice none 0 0, .slice none 0 0] GZ.out info_rngF rfl rngz_one ?_); simp only [Act.put, List.setIfInBounds_toArray, List.set_cons_zero, List.set_cons_succ])
      try simp only [Exit.inBlock, Exit.then]
      refine bodyPost_ret (results_cell_tmp rfl _ _ _ ⟨H, 0, none⟩ (.agg #[.int .i64 0, .slice none 0 0, .slice none 0 0]) rfl (rng_load (setRow_heap _ _ _ _ _ _ GZ.out))) rfl ?_
      exact ⟨fun h => absurd HF.out h, fun _ _ => rfl, fun _ h => absurd h (by have := HBA.out; omega), by rw [← HH.out]; exact below_setRowW B1.out (Nat.le_refl _) _⟩
    · have z1 : decide (hi < lo) = false := decide_eq_false hba
      have hab : lo ≤ hi := by omega
      have HAB := Lib.hid hab
      clear hba hab
      go_enter Tryd.func41, Tryd.ntmps41
      go_upto_region 1 with fail
      rw [← HH.out, ← HW0.out]
      go_wp2_with fail
      refine HLC.out.mono ?_
      rintro e w1 ⟨⟨al, cl, rfl, how⟩, hb1⟩
      have GZ := Lib.hid ((hb1.block H hsz).trans G0.out)
      have B1 := Lib.hid (BL.out.trans (hb1.mono (by omega)))
      have BW1 := Lib.hid (BW.out.trans (hb1.mono BW.out.size))
      have R1 := Lib.hid (R0.out.below hb1)
      have RO1 := Lib.hid (RO.out.at_ hb1)
      have RL1 := Lib.hid (Rd.of_own how)
      have CP1 := Lib.hid (own_cappW how)
      have hs1 : H < w1.heap.size := Nat.lt_of_lt_of_le hsz hb1.size
      clear hb1 how
      go_upto_block 0 with fail
      go_cut [10] from 32 to 48 (fun v wx => ∃ k : Nat, v = .int .i64 (k : Int) ∧ Hid (FromIs es lo k) ∧ w1 = wx)
      case first =>
        go_wp2_with fail
        go_loopw [10] (fun v wr => ∃ k : Nat, v = .int .i64 (k : Int) ∧ Hid (∀ j, (h : j < es.length) → 1 ≤ j → j ≤ k → es[j].key < lo) ∧ Hid (k = 0 ∨ k < es.length) ∧ w1 = wr) (fun v _ => es.length - (intOf v).toNat)
        case atStart => exact ⟨0, rfl, Lib.hid (fun j h h1 h2 => absurd h1 (by omega)), Lib.hid (.inl rfl), rfl⟩
        case round =>
          obtain ⟨k, rfl, HK, HK2, rfl⟩ := hrel
          obtain ⟨q, hq⟩ : ∃ q, q = k + 1 := ⟨_, rfl⟩
          have hk256 : k ≤ 256 := by have := HK2.out; omega
          have e1 : IntKind.i64.wrap ((k : Int) + 1) = (q : Int) := by rw [IntWalk.i64_in _ (by omega)]; omega
          have HQ := Lib.hid hq
          by_cases hlt : q < es.length
          · have y1 : decide ((q : Int) < (es.length : Int)) = true := decide_eq_true (by omega)
            have y2 : decide (q < es.length) = true := decide_eq_true hlt
            have j0 : (0 : Int) ≤ (q : Int) := by omega
            have j1 : (q : Int) < (es.length : Int) := by omega
            obtain ⟨bd, od, hbd, hbdl, hrd⟩ := R1.out.ent HL.out hlt
            subst hbd
            have hkey := range_ekey hrd
            obtain ⟨x, hx⟩ : ∃ x, x = es[q].key := ⟨_, rfl⟩
            rw [← hx] at hkey
            have HX := Lib.hid hx
            have HQL := Lib.hid hlt
            clear hrd hbdl hx hq
            by_cases hxl : x < lo
            · have y3 : decide (x < lo) = true := decide_eq_true hxl
              have HXL := Lib.hid hxl
              clear hxl
              go_wp2_with fail
              go_roundw
              case rel =>
                refine ⟨q, rfl, Lib.hid (fun j h h1 h2 => ?_), Lib.hid (.inr HQL.out), by first | rfl | trivial⟩
                by_cases hjk : j ≤ k
                · exact HK.out j h h1 hjk
                · obtain rfl : j = q := by have := HQ.out; omega
                  rw [← HX.out]; exact HXL.out
              case measure => simp [intOf]; have := HQ.out; have := HQL.out; omega
            · have y3 : decide (x < lo) = false := decide_eq_false hxl
              have HFR := Lib.hid (show FromIs es lo k from ⟨HK.out, fun h => by
                have := HX.out
                simp only [HQ.out] at this
                omega, HK2.out⟩)
              clear hxl
              go_wp2_with fail
              go_meet
              exact ⟨k, rfl, HFR, rfl⟩
          · have y1 : decide ((q : Int) < (es.length : Int)) = false := decide_eq_false (by omega)
            have y2 : decide (q < es.length) = false := decide_eq_false hlt
            have HFR := Lib.hid (show FromIs es lo k from ⟨HK.out, fun h => absurd h (by omega), HK2.out⟩)
            clear hlt hq
            go_wp2_with fail
            go_meet
            exact ⟨k, rfl, HFR, rfl⟩
      case rest =>
      obtain ⟨f, rfl, HFR, rfl⟩ := hcut
      go_upto_block 2 with fail
      go_cut [11] from 49 to 63 (fun v wx => ∃ t : Nat, v = .int .i64 (t : Int) ∧ Hid (ToIs es hi t) ∧ w1 = wx)
      case first =>
        go_wp2_with fail
        go_loopw [11] (fun v wr => ∃ t : Nat, v = .int .i64 (t : Int) ∧ Hid (t ≤ es.length) ∧ Hid (es.length = 0 ∨ 1 ≤ t) ∧ Hid (∀ j, (h : j < es.length) → t ≤ j + 1 → j + 1 < es.length → hi < es[j].key) ∧ w1 = wr) (fun v _ => (intOf v).toNat)
        case atStart => exact ⟨es.length, rfl, Lib.hid (Nat.le_refl _), Lib.hid (by omega), Lib.hid (fun j h h1 h2 => absurd h1 (by omega)), rfl⟩
        case round =>
          obtain ⟨t, rfl, HT1, HT2, HT3, rfl⟩ := hrel
          have ht256 : t ≤ 256 := by have := HT1.out; omega
          by_cases hlt : 2 ≤ t
          · obtain ⟨q, hq⟩ : ∃ q, q = t - 2 := ⟨_, rfl⟩
            obtain ⟨r, hr⟩ : ∃ r, r = t - 1 := ⟨_, rfl⟩
            have e1 : IntKind.i64.wrap ((t : Int) - 1) = (r : Int) := by rw [IntWalk.i64_in _ (by omega)]; omega
            have e2 : IntKind.i64.wrap ((t : Int) - 2) = (q : Int) := by rw [IntWalk.i64_in _ (by omega)]; omega
            have hql : q < es.length := by have := HT1.out; omega
            have y1 : decide ((0 : Int) < (r : Int)) = true := decide_eq_true (by omega)
            have y2 : decide (0 < r) = true := decide_eq_true (by omega)
            have j0 : (0 : Int) ≤ (q : Int) := by omega
            have j1 : (q : Int) < (es.length : Int) := by omega
            obtain ⟨bd, od, hbd, hbdl, hrd⟩ := R1.out.ent HL.out hql
            subst hbd
            have hkey := range_ekey hrd
            obtain ⟨x, hx⟩ : ∃ x, x = es[q].key := ⟨_, rfl⟩
            rw [← hx] at hkey
            have HX := Lib.hid hx
            have HQL := Lib.hid hql
            have HQ := Lib.hid hq
            have HR_ := Lib.hid hr
            have HLT := Lib.hid hlt
            clear hrd hbdl hx hq hr
            by_cases hxl : hi < x
            · have y3 : decide (hi < x) = true := decide_eq_true hxl
              have HXL := Lib.hid hxl
              clear hxl
              go_wp2_with fail
              go_roundw
              case rel =>
                refine ⟨r, rfl, Lib.hid (by have := HR_.out; have := HT1.out; omega), Lib.hid (by have := HR_.out; have := HLT.out; omega), Lib.hid (fun j h h1 h2 => ?_), by first | rfl | trivial⟩
                by_cases hjk : t ≤ j + 1
                · exact HT3.out j h hjk h2
                · obtain rfl : j = q := by have := HQ.out; have := HR_.out; omega
                  rw [← HX.out]; exact HXL.out
              case measure => simp [intOf]; have := HR_.out; have := HLT.out; omega
            · have y3 : decide (hi < x) = false := decide_eq_false hxl
              have HTO := Lib.hid (show ToIs es hi t from ⟨HT1.out, HT2.out, HT3.out, fun h h1 => by
                have := HX.out
                simp only [HQ.out] at this
                omega⟩)
              clear hxl
              go_wp2_with fail
              go_meet
              exact ⟨t, rfl, HTO, rfl⟩
          · have e1 : IntKind.i64.wrap ((t : Int) - 1) = (t : Int) - 1 := IntWalk.i64_in _ (by omega)
            have y1 : decide ((0 : Int) < (t : Int) - 1) = false := decide_eq_false (by omega)
            have y2 : decide ((1 : Int) < (t : Int)) = false := decide_eq_false (by omega)
            have y3 : decide (1 < t) = false := decide_eq_false (by omega)
            have HTO := Lib.hid (show ToIs es hi t from ⟨HT1.out, HT2.out, HT3.out, fun h h1 => absurd h1 (by omega)⟩)
            clear hlt
            go_wp2_with fail
            go_meet
            exact ⟨t, rfl, HTO, rfl⟩
      case rest =>
      obtain ⟨t, rfl, HTO, rfl⟩ := hcut
      by_cases h0 : es.length = 0
      · have y1 : ((es.length : Int) == 0) = true := by rw [h0]; rfl
        have hf0 : f = 0 := by have := HFR.out.2.2; omega
        have ht0 : t = 0 := by have := HTO.out.1; omega
        subst hf0
        subst ht0
        go_wp2_with ((refine wpList_store_row rfl _ (.tmp 6) (.tmp 67) rfl H #[.int .i64 0, .slice none 0 0, .slice none 0 0] (by rfl) (by rfl) _ #[.int .i64 0, .slice none 0 0, .slice none 0 0] GZ.out info_rngF rfl rngz_one ?_); simp only [Act.put, List.setIfInBounds_toArray, List.set_cons_zero, List.set_cons_succ])
        try simp only [Exit.inBlock, Exit.then]
        refine bodyPost_ret (results_cell_tmp rfl _ _ _ ⟨H, 0, none⟩ (.agg #[.int .i64 0, .slice none 0 0, .slice none 0 0]) rfl (rng_load (setRow_heap _ _ _ _ _ _ GZ.out))) rfl ?_
        have i0 : itemsF es 0 0 = [] := by simp [itemsF]
        have p0 : pathsF es 0 0 = [] := by simp [pathsF]
        exact ⟨fun h => absurd HF.out h, fun _ h => absurd h (by have := HAB.out; omega), fun _ _ => ⟨0, 0, none, 0, 0, none, 0, 0, [], HFR.out, HTO.out, by rw [i0, p0]; rfl, by rw [i0]; exact .inl rfl, .inl rfl, by rw [p0]; exact ⟨rfl, fun i hi => absurd hi (by simp)⟩⟩, by rw [← HH.out]; exact below_setRowW B1.out (Nat.le_refl _) _⟩
      · have y1 : ((es.length : Int) == 0) = false := by rw [beq_eq_false_iff_ne]; omega
        have hft := find_less HUP.out HAB.out HFR.out HTO.out h0
        have htl := HTO.out.1
        obtain ⟨RB, hRB⟩ : ∃ z, z = w1.heap.size := ⟨_, rfl⟩
        obtain ⟨w2, hw2⟩ : ∃ z, z = w1.alloc (.cells #[.int .i64 (f : Int), .slice none 0 0, .slice none 0 0] 61) := ⟨_, rfl⟩
        have hb2 : Below w1.heap.size w1 w2 := by rw [hw2]; exact (Below.refl _ _).alloc (Nat.le_refl _) _
        have GR2 := Lib.hid (show w2.heap[RB]? = some (.cells #[.int .i64 (f : Int), .slice none 0 0, .slice none 0 0] 61 (0, 0)) by rw [hw2, hRB]; exact heap_alloc_new _ _)
        have hsz2 : w2.heap.size = RB + 1 := by rw [hw2, hRB]; exact World.size_alloc _ _
        have B2 := Lib.hid (show Below w1.heap.size w1 w2 from hb2)
        have HRB := Lib.hid hRB
        have HW2 := Lib.hid hw2
        have HSZ2 := Lib.hid hsz2
        have HFT := Lib.hid hft
        have HTL := Lib.hid htl
        have HH1 := Lib.hid hs1
        clear hRB hw2 hb2 hsz2 h0
        go_wp2_with ((refine wpList_store_row rfl _ (.tmp 12) (.tmp 69) rfl w1.heap.size #[.int .i64 (f : Int), .slice none 0 0, .slice none 0 0] (by rfl) (by rfl) _ #[.int .i64 0, .slice none 0 0, .slice none 0 0] (heap_alloc_new w1 _) info_rngF rfl (rng_one _ _ _ rfl rfl rfl) ?_); rw [World.setRow_alloc_new, ← HRB.out, ← HW2.out]; simp only [Act.put, List.setIfInBounds_toArray, List.set_cons_zero, List.set_cons_succ])
        go_loopw [13] (fun iv wr => ∃ (k q : Nat) (v1 v2 : Value) (vs : List Value), iv = .int .i64 (q : Int) ∧ Hid (q = f + k) ∧ Hid (k ≤ t - f) ∧ Hid (wr.heap[RB]? = some (.cells #[.int .i64 (f : Int), v1, v2] 61 (0, 0))) ∧ Hid (vs.length = k) ∧ Hid (wr.ownsRow (RB + 1) 35 33 v1 k (cellsE ((es.drop f).take k))) ∧ Hid (wr.ownsRow (RB + 1) 24 1 v2 k vs) ∧ Hid (PathsT wr (pthF es f k) vs) ∧ Hid (RB < wr.heap.size) ∧ Hid (Below RB w2 wr)) (fun iv _ => t - (intOf iv).toNat)
        case atStart => exact ⟨0, f, .slice none 0 0, .slice none 0 0, [], rfl, Lib.hid rfl, Lib.hid (Nat.zero_le _), GR2, Lib.hid rfl, Lib.hid (World.ownsRow_nil _ _ _ _), Lib.hid (World.ownsRow_nil _ _ _ _), Lib.hid ⟨rfl, fun i hi => absurd hi (by simp [pthF])⟩, Lib.hid (by rw [HSZ2.out]; omega), Lib.hid (Below.refl _ _)⟩
        case round =>
          obtain ⟨k, q, v1, v2, vs, rfl, HQ, HKT, HRC, HVL, HO1, HO2, HPT, HSR, HBL⟩ := hrel
          obtain ⟨wA, rfl⟩ : ∃ z, z = wr := ⟨_, rfl⟩
          have BA := Lib.hid (show Below w1.heap.size w1 wA from B2.out.trans (by rw [← HRB.out]; exact HBL.out))
          by_cases hlt : q < t
          · have hql : q < es.length := by have := HTL.out; omega
            have y2 : decide ((q : Int) < (t : Int)) = true := decide_eq_true (by omega)
            have y3 : decide (q < t) = true := decide_eq_true hlt
            have e4 : IntKind.i64.wrap ((q : Int) + 1) = (q : Int) + 1 := IntWalk.i64_in _ (by omega)
            have j0 : (0 : Int) ≤ (q : Int) := by omega
            have j1 : (q : Int) < (es.length : Int) := by omega
            obtain ⟨bd, od, hbd, hbdl, hrd⟩ := R1.out.ent HL.out hql
            subst hbd
            obtain ⟨E, hE⟩ : ∃ E, E = es[q] := ⟨_, rfl⟩
            rw [← hE] at hrd
            have HEW := Lib.hid (show E.val.length = 32 by rw [hE]; exact HL.out _ (List.getElem_mem _))
            have TC := TPath_calls (leavesD es) q (by rw [leavesD_length]; omega) (by rw [leavesD_length]; exact hql) (leavesD_dig es) al cl 23 (by rw [leavesD_length]; exact CP1.out.1) CP1.out.2 wA (RL1.out.below BA.out) (RO1.out.at_ BA.out)
            rw [leavesD_length] at TC
            have HTC := Lib.hid TC
            have HTD := Lib.hid (tpath_dig _ (leavesD es) q (Nat.le_refl _) (leavesD_dig es))
            have HTL2 := Lib.hid (show (tpath (leavesD es) q).length = tlong q es.length by rw [tpath_long _ _ _ (Nat.le_refl _), leavesD_length])
            have HQT := Lib.hid hlt
            have HRD0 := Lib.hid (range_keep BA.out hrd hbdl)
            have HBD := Lib.hid (show bd < RB + 1 by rw [HRB.out]; omega)
            have HTK := Lib.hid (show cellsE ((es.drop f).take (k + 1)) = cellsE ((es.drop f).take k) ++ eL E by
              have hk1 : k < (es.drop f).length := by rw [List.length_drop]; have := HQ.out; omega
              rw [List.take_succ_eq_append_getElem hk1, cellsE_append, cellsE_one, List.getElem_drop, hE]
              simp only [HQ.out])
            have HPK := Lib.hid (show pthF es f (k + 1) = pthF es f k ++ [tpath (leavesD es) q] by
              unfold pthF
              rw [List.range_succ, List.map_append, HQ.out]; rfl)
            have hk256 : k ≤ 256 := by have := HQ.out; omega
            clear TC hE hrd hbdl
            go_wp2_with fail
            refine HTC.out.mono ?_
            rintro e wB ⟨pa, pc, rfl, hrp, hbB⟩
            have HBB := Lib.hid hbB
            have hGRB := (hbB.block RB HSR.out).trans HRC.out
            have GRB := Lib.hid hGRB
            have hsB : RB + 1 ≤ wB.heap.size := lt_of_heap hGRB
            have MDB := Lib.hid (show Made wB (RB + 1) v1 k (cellsE ((es.drop f).take k)) v2 vs (pthF es f k) pa ((tpath (leavesD es) q).flatten.map vB) from ⟨own_below HO1.out hbB, by rw [HVL.out]; exact own_below HO2.out hbB, by rw [List.take_of_length_le (by rw [pthF_length, HVL.out]; exact Nat.le_refl _)]; exact HPT.out.map fun _ _ hr => hr.below hbB, hrp, hsB⟩)
            have hrdB : wB.rangeAt bd (od + q * 33) (eL E) := range_keep hbB HRD0.out (Nat.lt_of_lt_of_le (show bd < RB + 1 from HBD.out) HSR.out)
            have KS := Lib.hid (show ∀ w', Below (RB + 1) wB w' → w'.rangeAt bd (od + q * 33) (eL E) ∧ w'.cell? ⟨RB, 1, none⟩ = some v1 ∧ w'.cell? ⟨RB, 2, none⟩ = some v2 from fun w' hb => ⟨fun j v hj => (hb.cell (p := ⟨bd, od + q * 33 + j, none⟩) HBD.out).trans (hrdB j v hj), (hb.cell (p := ⟨RB, 1, none⟩) (Nat.lt_succ_self _)).trans (rng_cells hGRB).2.1, (hb.cell (p := ⟨RB, 2, none⟩) (Nat.lt_succ_self _)).trans (rng_cells hGRB).2.2⟩)
            have hinfoE : (Tryd.prog.info? 35).map (·.size) = some (eL E).length := by rw [eL_length HEW.out]; exact info_ent
            have hFs := F20_in
            clear hbB hGRB hsB hrp hrdB HTC
            go_wp2_with fail
            refine wp_region_final_drew F20 (fun w' => w'.rangeAt bd (od + q * 33) (eL E) ∧ w'.cell? ⟨RB, 1, none⟩ = some v1 ∧ w'.cell? ⟨RB, 2, none⟩ = some v2) (by kernel_rfl) (KS.out wB.drew ((Below.refl _ _).drew)) (fun hHeld => ?_)
            obtain ⟨wX0, hwX0⟩ : ∃ z, z = wB.drew := ⟨_, rfl⟩
            have BX0 := Lib.hid (show Below (RB + 1) wB wX0 by rw [hwX0]; exact (Below.refl _ _).drew)
            have MD0 := Lib.hid (MDB.out.map (show Below wB.heap.size wB wX0 by rw [hwX0]; exact (Below.refl _ _).drew))
            rw [← hwX0] at hHeld ⊢
            clear hwX0
            refine wpAnyF_take (fs := [14, 16]) (i := 0) (oi := _) (v := .pointer (some ⟨RB, 1, none⟩)) rfl (by kernel_rfl) (by kernel_rfl) (by kernel_rfl) hFs rfl (by kernel_rfl) (fun _ _ _ h => h) (Or.inl ⟨by rfl, fun w hw => by go_simp⟩) hHeld ?_
            simp only [Act.put, List.getElem_toArray, List.getElem_cons_zero, List.getElem_cons_succ, List.setIfInBounds_toArray, List.set_cons_zero, List.set_cons_succ]
            refine wpAnyF_take (fs := [14, 16]) (i := 1) (oi := _) (v := v1) rfl (by kernel_rfl) (by kernel_rfl) (by kernel_rfl) hFs rfl (by kernel_rfl) (fun _ _ _ h => h) (Or.inl ⟨by rfl, fun w hw => by have hc := hw.2.1; clear hw; go_simp⟩) hHeld ?_
            simp only [Act.put, List.getElem_toArray, List.getElem_cons_zero, List.getElem_cons_succ, List.setIfInBounds_toArray, List.set_cons_zero, List.set_cons_succ]
            refine wpAnyF_take (fs := [14, 16]) (i := 2) (oi := _) (v := .slice (some ⟨bd, od, none⟩) es.length cap) rfl (by kernel_rfl) (by kernel_rfl) (by kernel_rfl) hFs rfl (by kernel_rfl) (fun _ _ _ h => h) (Or.inl ⟨by rfl, fun w hw => by go_simp⟩) hHeld ?_
            simp only [Act.put, List.getElem_toArray, List.getElem_cons_zero, List.getElem_cons_succ, List.setIfInBounds_toArray, List.set_cons_zero, List.set_cons_succ]
            refine wpAnyF_take (fs := [14, 16]) (i := 3) (oi := _) (v := .int .i64 (q : Int)) rfl (by kernel_rfl) (by kernel_rfl) (by kernel_rfl) hFs rfl (by kernel_rfl) (fun _ _ _ h => h) (Or.inl ⟨by rfl, fun w hw => by go_simp⟩) hHeld ?_
            simp only [Act.put, List.getElem_toArray, List.getElem_cons_zero, List.getElem_cons_succ, List.setIfInBounds_toArray, List.set_cons_zero, List.set_cons_succ]
            refine wpAnyF_take (fs := [14, 16]) (i := 4) (oi := _) (v := .pointer (some ⟨bd, od + q * 33, none⟩)) rfl (by kernel_rfl) (by kernel_rfl) (by kernel_rfl) hFs rfl (by kernel_rfl) (fun _ _ _ h => h) (Or.inl ⟨by rfl, fun w hw => by go_simp⟩) hHeld ?_
            simp only [Act.put, List.getElem_toArray, List.getElem_cons_zero, List.getElem_cons_succ, List.setIfInBounds_toArray, List.set_cons_zero, List.set_cons_succ]
            refine wpAnyF_take (fs := [14, 16]) (i := 5) (oi := _) (v := .agg (eV E.key E.val)) rfl (by kernel_rfl) (by kernel_rfl) (by kernel_rfl) hFs rfl (by kernel_rfl) (fun _ _ _ h => h) (yieldsIf_load_mid (by rfl) _ _ rfl _ _ rfl (eL E) _ (fun w hw => hw.1) Tryd.underlying35 rfl hinfoE) hHeld ?_
            simp only [Act.put, List.getElem_toArray, List.getElem_cons_zero, List.getElem_cons_succ, List.setIfInBounds_toArray, List.set_cons_zero, List.set_cons_succ]
            refine wpAnyF_take (fs := [14, 16]) (i := 8) (oi := _) (v := .pointer (some ⟨RB, 2, none⟩)) rfl (by kernel_rfl) (by kernel_rfl) (by kernel_rfl) hFs rfl (by kernel_rfl) (fun _ _ _ h => h) (Or.inl ⟨by rfl, fun w hw => by go_simp⟩) hHeld ?_
            simp only [Act.put, List.getElem_toArray, List.getElem_cons_zero, List.getElem_cons_succ, List.setIfInBounds_toArray, List.set_cons_zero, List.set_cons_succ]
            refine wpAnyF_take (fs := [14, 16]) (i := 9) (oi := _) (v := v2) rfl (by kernel_rfl) (by kernel_rfl) (by kernel_rfl) hFs rfl (by kernel_rfl) (fun _ _ _ h => h) (Or.inl ⟨by rfl, fun w hw => by have hc := hw.2.2; clear hw; go_simp⟩) hHeld ?_
            simp only [Act.put, List.getElem_toArray, List.getElem_cons_zero, List.getElem_cons_succ, List.setIfInBounds_toArray, List.set_cons_zero, List.set_cons_succ]
            refine wpAnyF_take (fs := [14, 16]) (i := 10) (oi := _) (v := .slice pa (tlong q es.length) pc) rfl (by kernel_rfl) (by kernel_rfl) (by kernel_rfl) hFs rfl (by kernel_rfl) (fun _ _ _ h => h) (Or.inl ⟨by rfl, fun w hw => by go_simp⟩) hHeld ?_
            simp only [Act.put, List.getElem_toArray, List.getElem_cons_zero, List.getElem_cons_succ, List.setIfInBounds_toArray, List.set_cons_zero, List.set_cons_succ]
            refine wpAnyF_ready (rs := [6, 11]) (by kernel_rfl) (by simp) ?_
            refine AllReadyF.cons (o := _) rfl (fun K hK => ?_) (AllReadyF.cons (o := _) rfl (fun K hK => ?_) AllReadyF.nil)
            · have HK := Lib.hid hK
              clear hK
              refine stepBuild1 40 35 _ 33 40 Tryd.underlying40 info_entz (by omega) (by omega) rfl (.tmp 91) rfl (eV E.key E.val) (by rfl) (eVs HEW.out) ?_
              obtain ⟨IB, hIB⟩ : ∃ z, z = wX0.heap.size := ⟨_, rfl⟩
              rw [← hIB]
              obtain ⟨wX1, hwX1⟩ : ∃ z, z = wX0.alloc (.cells (eV E.key E.val) 35) := ⟨_, rfl⟩
              rw [← hwX1]
              have bs : Below wX0.heap.size wX0 wX1 := by rw [hwX1]; exact (Below.refl _ _).alloc (Nat.le_refl _) _
              have BX1 := Lib.hid (show Below (RB + 1) wB wX1 from BX0.out.trans (bs.mono MD0.out.size))
              have MD1 := Lib.hid (MD0.out.map bs)
              have GI1 := Lib.hid (show wX1.heap[IB]? = some (.cells (eV E.key E.val) 35 (0, 0)) by rw [hwX1, hIB]; exact heap_alloc_new _ _)
              have LI1 := Lib.hid (lt_of_heap GI1.out)
              clear hIB hwX1 bs
              have hS : wX1.rangeAt bd (od + q * 33) (eL E) ∧ wX1.cell? ⟨RB, 1, none⟩ = some v1 ∧ wX1.cell? ⟨RB, 2, none⟩ = some v2 := KS.out _ BX1.out
              clear hHeld
              refine HK.out _ _ (fun _ => hS) ?_
              clear HK K
              try simp only [Act.put, List.getElem_toArray, List.getElem_cons_zero, List.getElem_cons_succ, List.setIfInBounds_toArray, List.set_cons_zero, List.set_cons_succ]
              have hHeld := hS
              clear hS
              refine wpAnyF_ready (rs := [7, 11]) (by kernel_rfl) (by simp) ?_
              refine AllReadyF.cons (o := _) rfl (fun K hK => ?_) (AllReadyF.cons (o := _) rfl (fun K hK => ?_) AllReadyF.nil)
              · have HK := Lib.hid hK
                clear hK
                refine stepAppN 40 35 _ 33 40 Tryd.underlying40 info_entz (show (eV 0 nz).size = 33 from eV_size _ _ rfl) (by omega) (by omega) rfl (.tmp 87) (.tmp 92) (by rfl) (RB + 1) v1 k (cellsE ((es.drop f).take k)) (by rfl) MD1.out.one IB 1 (eL E) (by rfl) (eL_length HEW.out) (fun j hj => by have := range_ent GI1.out j _ (List.getElem?_eq_getElem hj); rwa [Nat.zero_add] at this) (eL_one _) (by omega) MD1.out.size _ rfl ?_
                intro gI cI wX2 hown hgrow hat hlt3
                have BX2 := Lib.hid (show Below (RB + 1) wB wX2 from below_grow BX1.out MD1.out.one hgrow MD1.out.size)
                have hsz3 : wX1.heap.size ≤ wX2.heap.size := hgrow.size
                have MD2 := Lib.hid (MD1.out.app1 hown hgrow hsz3)
                clear hown hgrow hat hlt3 hsz3
                have hS : wX2.rangeAt bd (od + q * 33) (eL E) ∧ wX2.cell? ⟨RB, 1, none⟩ = some v1 ∧ wX2.cell? ⟨RB, 2, none⟩ = some v2 := KS.out _ BX2.out
                clear hHeld
                refine HK.out _ _ (fun _ => hS) ?_
                clear HK K
                try simp only [Act.put, List.getElem_toArray, List.getElem_cons_zero, List.getElem_cons_succ, List.setIfInBounds_toArray, List.set_cons_zero, List.set_cons_succ]
                have hHeld := hS
                clear hS
                refine wpAnyF_take (fs := [14, 16]) (i := 13) (oi := _) (v := .pointer (some ⟨RB, 1, none⟩)) rfl (by kernel_rfl) (by kernel_rfl) (by kernel_rfl) hFs rfl (by kernel_rfl) (fun _ _ _ h => h) (Or.inl ⟨by rfl, fun w hw => by go_simp⟩) hHeld ?_
                simp only [Act.put, List.getElem_toArray, List.getElem_cons_zero, List.getElem_cons_succ, List.setIfInBounds_toArray, List.set_cons_zero, List.set_cons_succ]
                refine wpAnyF_ready (rs := [11]) (by kernel_rfl) (by simp) ?_
                refine AllReadyF.cons (o := _) rfl (fun K hK => ?_) AllReadyF.nil
                have HK := Lib.hid hK
                clear hK
                go_simp
                obtain ⟨PB, hPB⟩ : ∃ z, z = wX2.heap.size := ⟨_, rfl⟩
                rw [← hPB]
                obtain ⟨wX3, hwX3⟩ : ∃ z, z = wX2.alloc (.cells #[.slice pa (tlong q es.length) pc] 24) := ⟨_, rfl⟩
                rw [← hwX3]
                have bs : Below wX2.heap.size wX2 wX3 := by rw [hwX3]; exact (Below.refl _ _).alloc (Nat.le_refl _) _
                have BX3 := Lib.hid (show Below (RB + 1) wB wX3 from BX2.out.trans (bs.mono MD2.out.size))
                have MD3 := Lib.hid (MD2.out.map bs)
                have GP3 := Lib.hid (show wX3.heap[PB]? = some (.cells #[.slice pa (tlong q es.length) pc] 24 (0, 0)) by rw [hwX3, hPB]; exact heap_alloc_new _ _)
                have LP3 := Lib.hid (lt_of_heap GP3.out)
                clear hPB hwX3 bs
                have hS : wX3.rangeAt bd (od + q * 33) (eL E) ∧ wX3.cell? ⟨RB, 1, none⟩ = some v1 ∧ wX3.cell? ⟨RB, 2, none⟩ = some v2 := KS.out _ BX3.out
                clear hHeld
                refine HK.out _ _ (fun _ => hS) ?_
                clear HK K
                try simp only [Act.put, List.getElem_toArray, List.getElem_cons_zero, List.getElem_cons_succ, List.setIfInBounds_toArray, List.set_cons_zero, List.set_cons_succ]
                have hHeld := hS
                clear hS
                refine wpAnyF_ready (rs := [12]) (by kernel_rfl) (by simp) ?_
                refine AllReadyF.cons (o := _) rfl (fun K hK => ?_) AllReadyF.nil
                have HK := Lib.hid hK
                clear hK
                refine stepApp1 59 24 _ 24 Tryd.underlying59 info_dgs rfl (by omega) rfl (.tmp 95) (.tmp 97) (by rfl) (RB + 1) v2 vs.length vs (by rfl) MD3.out.two ⟨PB, 0, none⟩ 1 (.slice pa (tlong q es.length) pc) (by rfl) (by rw [cell_of_row _ _ _ _ _ _ GP3.out]; rfl) rfl (by have := HVL.out; omega) MD3.out.size _ rfl ?_
                intro gP cP wX4 hown hgrow hat hlt3
                have BX4 := Lib.hid (show Below (RB + 1) wB wX4 from below_grow BX3.out MD3.out.two hgrow MD3.out.size)
                have hsz3 : wX3.heap.size ≤ wX4.heap.size := hgrow.size
                have MD4 := Lib.hid (MD3.out.app2 (by rw [pthF_length, HVL.out]; exact Nat.le_refl _) hown hgrow hsz3)
                clear hown hgrow hat hlt3 hsz3
                have hS : wX4.rangeAt bd (od + q * 33) (eL E) ∧ wX4.cell? ⟨RB, 1, none⟩ = some v1 ∧ wX4.cell? ⟨RB, 2, none⟩ = some v2 := KS.out _ BX4.out
                clear hHeld
                refine HK.out _ _ (fun _ => hS) ?_
                clear HK K
                try simp only [Act.put, List.getElem_toArray, List.getElem_cons_zero, List.getElem_cons_succ, List.setIfInBounds_toArray, List.set_cons_zero, List.set_cons_succ]
                have hHeld := hS
                clear hS
                have GRF := Lib.hid ((BX4.out.block RB (Nat.lt_succ_self _)).trans GRB.out)
                have cF1 : wX4.cell? ⟨RB, 1, none⟩ = some v1 := (rng_cells GRF.out).2.1
                have fF1 : wX4.frozen? ⟨RB, 1, none⟩ = false := frozen_of_row _ _ _ _ _ GRF.out
                refine wpAnyF_ready (rs := [14]) (by kernel_rfl) (by simp) ?_
                refine AllReadyF.cons (o := _) rfl (fun K hK => ?_) AllReadyF.nil
                have HK := Lib.hid hK
                clear hK
                go_simp
                obtain ⟨wY, hwY⟩ : ∃ z, z = wX4.setCell ⟨RB, 1, none⟩ (.slice (some ⟨gI, 0, none⟩) (k + 1) cI) := ⟨_, rfl⟩
                rw [← hwY]
                have GRY := Lib.hid (show wY.heap[RB]? = some (.cells #[.int .i64 (f : Int), .slice (some ⟨gI, 0, none⟩) (k + 1) cI, v2] 61 (0, 0)) by rw [hwY]; exact setCell_row GRF.out _)
                have HWY := Lib.hid hwY
                clear cF1 fF1 hwY
                have cF2 : wY.cell? ⟨RB, 2, none⟩ = some v2 := (rng_cells GRY.out).2.2
                have fF2 : wY.frozen? ⟨RB, 2, none⟩ = false := frozen_of_row _ _ _ _ _ GRY.out
                refine HK.out _ _ (fun h => absurd (h 14 rfl) (by decide)) ?_
                clear HK K hHeld
                try simp only [Act.put, List.getElem_toArray, List.getElem_cons_zero, List.getElem_cons_succ, List.setIfInBounds_toArray, List.set_cons_zero, List.set_cons_succ]
                refine wpAnyF_ready (rs := [15]) (by kernel_rfl) (by simp) ?_
                refine AllReadyF.cons (o := _) rfl (fun K hK => ?_) AllReadyF.nil
                have HK := Lib.hid hK
                clear hK
                go_simp
                refine HK.out _ _ (fun h => absurd (h 14 rfl) (by decide)) ?_
                clear HK K
                try simp only [Act.put, List.getElem_toArray, List.getElem_cons_zero, List.getElem_cons_succ, List.setIfInBounds_toArray, List.set_cons_zero, List.set_cons_succ]
                refine wpAnyF_ready (rs := [16]) (by kernel_rfl) (by simp) ?_
                refine AllReadyF.cons (o := _) rfl (fun K hK => ?_) AllReadyF.nil
                have HK := Lib.hid hK
                clear hK
                go_simp
                obtain ⟨wZ, hwZ⟩ : ∃ z, z = wY.setCell ⟨RB, 2, none⟩ (.slice (some ⟨gP, 0, none⟩) (vs.length + 1) cP) := ⟨_, rfl⟩
                rw [← hwZ]
                have GRZ := Lib.hid (show wZ.heap[RB]? = some (.cells #[.int .i64 (f : Int), .slice (some ⟨gI, 0, none⟩) (k + 1) cI, .slice (some ⟨gP, 0, none⟩) (vs.length + 1) cP] 61 (0, 0)) by rw [hwZ]; exact setCell_row GRY.out _)
                have far : ∀ g, g ≠ RB → wZ.heap[g]? = wX4.heap[g]? := fun g hg => by rw [hwZ, setCell_far _ (Ne.symm hg), HWY.out, setCell_far _ (Ne.symm hg)]
                have HFAR := Lib.hid far
                have hbz : Below RB wX4 wZ := by rw [hwZ, HWY.out]; exact ((Below.refl RB _).setCell (show RB ≤ (⟨RB, 1, none⟩ : Addr).block from Nat.le_refl RB) _).setCell (show RB ≤ (⟨RB, 2, none⟩ : Addr).block from Nat.le_refl RB) _
                have BZ := Lib.hid (show Below RB w2 wZ from HBL.out.trans ((HBB.out.mono (Nat.le_of_lt HSR.out)).trans ((BX4.out.mono (Nat.le_succ _)).trans hbz)))
                have hszz : RB < wZ.heap.size := lt_of_heap GRZ.out
                have HSZZ := Lib.hid hszz
                clear cF2 fF2 far hbz hszz hwZ
                refine HK.out _ _ (fun h => absurd (h 14 rfl) (by decide)) ?_
                clear HK K
                try simp only [Act.put, List.getElem_toArray, List.getElem_cons_zero, List.getElem_cons_succ, List.setIfInBounds_toArray, List.set_cons_zero, List.set_cons_succ]
                refine wpAnyF_done (by kernel_rfl) ?_ _
                have O1Z := Lib.hid (own_far MD4.out.one fun g hg => HFAR.out g (by omega))
                have O2Z := Lib.hid (own_far MD4.out.two fun g hg => HFAR.out g (by omega))
                have PTZ := Lib.hid ((show PathsT wX4 (pthF es f k) vs by
                  have := MD4.out.paths
                  rw [pthF_length, List.take_append_of_le_length (by rw [HVL.out]; exact Nat.le_refl _), List.take_of_length_le (by rw [HVL.out]; exact Nat.le_refl _)] at this
                  exact this).snoc (HTD.out) (c := pc) MD4.out.new |>.map fun _ _ hr => hr.other_type GRF.out (by decide) HFAR.out)
                go_wp2_with fail
                go_roundw
                case rel =>
                  refine ⟨k + 1, q + 1, _, _, vs ++ [.slice pa (tlong q es.length) pc], by go_num, Lib.hid (by have := HQ.out; omega), Lib.hid (by have := HQ.out; have := HQT.out; omega), GRZ, Lib.hid (by rw [List.length_append, HVL.out]; rfl), Lib.hid ?_, Lib.hid ?_, Lib.hid ?_, HSZZ, BZ⟩
                  · rw [HTK.out]; exact O1Z.out
                  · have := O2Z.out
                    rw [List.length_append, HVL.out] at this
                    rw [HVL.out]
                    exact this
                  · rw [HPK.out]
                    have := PTZ.out
                    rw [HTL2.out] at this
                    exact this
                case measure => simp [intOf]; have := HQT.out; omega
              · have HK := Lib.hid hK
                clear hK
                go_simp
                obtain ⟨PB, hPB⟩ : ∃ z, z = wX1.heap.size := ⟨_, rfl⟩
                rw [← hPB]
                obtain ⟨wX2, hwX2⟩ : ∃ z, z = wX1.alloc (.cells #[.slice pa (tlong q es.length) pc] 24) := ⟨_, rfl⟩
                rw [← hwX2]
                have bs : Below wX1.heap.size wX1 wX2 := by rw [hwX2]; exact (Below.refl _ _).alloc (Nat.le_refl _) _
                have BX2 := Lib.hid (show Below (RB + 1) wB wX2 from BX1.out.trans (bs.mono MD1.out.size))
                have MD2 := Lib.hid (MD1.out.map bs)
                have GI2 := Lib.hid ((bs.block IB LI1.out).trans GI1.out)
                have LI2 := Lib.hid (lt_of_heap GI2.out)
                have GP2 := Lib.hid (show wX2.heap[PB]? = some (.cells #[.slice pa (tlong q es.length) pc] 24 (0, 0)) by rw [hwX2, hPB]; exact heap_alloc_new _ _)
                have LP2 := Lib.hid (lt_of_heap GP2.out)
                clear hPB hwX2 bs
                have hS : wX2.rangeAt bd (od + q * 33) (eL E) ∧ wX2.cell? ⟨RB, 1, none⟩ = some v1 ∧ wX2.cell? ⟨RB, 2, none⟩ = some v2 := KS.out _ BX2.out
                clear hHeld
                refine HK.out _ _ (fun _ => hS) ?_
                clear HK K
                try simp only [Act.put, List.getElem_toArray, List.getElem_cons_zero, List.getElem_cons_succ, List.setIfInBounds_toArray, List.set_cons_zero, List.set_cons_succ]
                have hHeld := hS
                clear hS
                refine wpAnyF_ready (rs := [7]) (by kernel_rfl) (by simp) ?_
                refine AllReadyF.cons (o := _) rfl (fun K hK => ?_) AllReadyF.nil
                have HK := Lib.hid hK
                clear hK
                refine stepAppN 40 35 _ 33 40 Tryd.underlying40 info_entz (show (eV 0 nz).size = 33 from eV_size _ _ rfl) (by omega) (by omega) rfl (.tmp 87) (.tmp 92) (by rfl) (RB + 1) v1 k (cellsE ((es.drop f).take k)) (by rfl) MD2.out.one IB 1 (eL E) (by rfl) (eL_length HEW.out) (fun j hj => by have := range_ent GI2.out j _ (List.getElem?_eq_getElem hj); rwa [Nat.zero_add] at this) (eL_one _) (by omega) MD2.out.size _ rfl ?_
                intro gI cI wX3 hown hgrow hat hlt3
                have BX3 := Lib.hid (show Below (RB + 1) wB wX3 from below_grow BX2.out MD2.out.one hgrow MD2.out.size)
                have hsz3 : wX2.heap.size ≤ wX3.heap.size := hgrow.size
                have MD3 := Lib.hid (MD2.out.app1 hown hgrow hsz3)
                have GP3 := Lib.hid ((hgrow.block PB LP2.out (fun e1 => by
                  obtain ⟨c2, t2, f2, h2, rfl⟩ := own_block MD2.out.one PB (by first | exact e1 | exact e1.symm)
                  have := GP2.out
                  rw [h2] at this
                  simp only [Option.some.injEq, Obj.cells.injEq] at this
                  exact ent_ne_dgs this.2.1)).trans GP2.out)
                have LP3 := Lib.hid (lt_of_heap GP3.out)
                clear hown hgrow hat hlt3 hsz3
                have hS : wX3.rangeAt bd (od + q * 33) (eL E) ∧ wX3.cell? ⟨RB, 1, none⟩ = some v1 ∧ wX3.cell? ⟨RB, 2, none⟩ = some v2 := KS.out _ BX3.out
                clear hHeld
                refine HK.out _ _ (fun _ => hS) ?_
                clear HK K
                try simp only [Act.put, List.getElem_toArray, List.getElem_cons_zero, List.getElem_cons_succ, List.setIfInBounds_toArray, List.set_cons_zero, List.set_cons_succ]
                have hHeld := hS
                clear hS
                refine wpAnyF_take (fs := [14, 16]) (i := 13) (oi := _) (v := .pointer (some ⟨RB, 1, none⟩)) rfl (by kernel_rfl) (by kernel_rfl) (by kernel_rfl) hFs rfl (by kernel_rfl) (fun _ _ _ h => h) (Or.inl ⟨by rfl, fun w hw => by go_simp⟩) hHeld ?_
                simp only [Act.put, List.getElem_toArray, List.getElem_cons_zero, List.getElem_cons_succ, List.setIfInBounds_toArray, List.set_cons_zero, List.set_cons_succ]
                refine wpAnyF_ready (rs := [12]) (by kernel_rfl) (by simp) ?_
                refine AllReadyF.cons (o := _) rfl (fun K hK => ?_) AllReadyF.nil
                have HK := Lib.hid hK
                clear hK
                refine stepApp1 59 24 _ 24 Tryd.underlying59 info_dgs rfl (by omega) rfl (.tmp 95) (.tmp 97) (by rfl) (RB + 1) v2 vs.length vs (by rfl) MD3.out.two ⟨PB, 0, none⟩ 1 (.slice pa (tlong q es.length) pc) (by rfl) (by rw [cell_of_row _ _ _ _ _ _ GP3.out]; rfl) rfl (by have := HVL.out; omega) MD3.out.size _ rfl ?_
                intro gP cP wX4 hown hgrow hat hlt3
                have BX4 := Lib.hid (show Below (RB + 1) wB wX4 from below_grow BX3.out MD3.out.two hgrow MD3.out.size)
                have hsz3 : wX3.heap.size ≤ wX4.heap.size := hgrow.size
                have MD4 := Lib.hid (MD3.out.app2 (by rw [pthF_length, HVL.out]; exact Nat.le_refl _) hown hgrow hsz3)
                clear hown hgrow hat hlt3 hsz3
                have hS : wX4.rangeAt bd (od + q * 33) (eL E) ∧ wX4.cell? ⟨RB, 1, none⟩ = some v1 ∧ wX4.cell? ⟨RB, 2, none⟩ = some v2 := KS.out _ BX4.out
                clear hHeld
                refine HK.out _ _ (fun _ => hS) ?_
                clear HK K
                try simp only [Act.put, List.getElem_toArray, List.getElem_cons_zero, List.getElem_cons_succ, List.setIfInBounds_toArray, List.set_cons_zero, List.set_cons_succ]
                have hHeld := hS
                clear hS
                have GRF := Lib.hid ((BX4.out.block RB (Nat.lt_succ_self _)).trans GRB.out)
                have cF1 : wX4.cell? ⟨RB, 1, none⟩ = some v1 := (rng_cells GRF.out).2.1
                have fF1 : wX4.frozen? ⟨RB, 1, none⟩ = false := frozen_of_row _ _ _ _ _ GRF.out
                refine wpAnyF_ready (rs := [14]) (by kernel_rfl) (by simp) ?_
                refine AllReadyF.cons (o := _) rfl (fun K hK => ?_) AllReadyF.nil
                have HK := Lib.hid hK
                clear hK
                go_simp
                obtain ⟨wY, hwY⟩ : ∃ z, z = wX4.setCell ⟨RB, 1, none⟩ (.slice (some ⟨gI, 0, none⟩) (k + 1) cI) := ⟨_, rfl⟩
                rw [← hwY]
                have GRY := Lib.hid (show wY.heap[RB]? = some (.cells #[.int .i64 (f : Int), .slice (some ⟨gI, 0, none⟩) (k + 1) cI, v2] 61 (0, 0)) by rw [hwY]; exact setCell_row GRF.out _)
                have HWY := Lib.hid hwY
                clear cF1 fF1 hwY
                have cF2 : wY.cell? ⟨RB, 2, none⟩ = some v2 := (rng_cells GRY.out).2.2
                have fF2 : wY.frozen? ⟨RB, 2, none⟩ = false := frozen_of_row _ _ _ _ _ GRY.out
                refine HK.out _ _ (fun h => absurd (h 14 rfl) (by decide)) ?_
                clear HK K hHeld
                try simp only [Act.put, List.getElem_toArray, List.getElem_cons_zero, List.getElem_cons_succ, List.setIfInBounds_toArray, List.set_cons_zero, List.set_cons_succ]
                refine wpAnyF_ready (rs := [15]) (by kernel_rfl) (by simp) ?_
                refine AllReadyF.cons (o := _) rfl (fun K hK => ?_) AllReadyF.nil
                have HK := Lib.hid hK
                clear hK
                go_simp
                refine HK.out _ _ (fun h => absurd (h 14 rfl) (by decide)) ?_
                clear HK K
                try simp only [Act.put, List.getElem_toArray, List.getElem_cons_zero, List.getElem_cons_succ, List.setIfInBounds_toArray, List.set_cons_zero, List.set_cons_succ]
                refine wpAnyF_ready (rs := [16]) (by kernel_rfl) (by simp) ?_
                refine AllReadyF.cons (o := _) rfl (fun K hK => ?_) AllReadyF.nil
                have HK := Lib.hid hK
                clear hK
                go_simp
                obtain ⟨wZ, hwZ⟩ : ∃ z, z = wY.setCell ⟨RB, 2, none⟩ (.slice (some ⟨gP, 0, none⟩) (vs.length + 1) cP) := ⟨_, rfl⟩
                rw [← hwZ]
                have GRZ := Lib.hid (show wZ.heap[RB]? = some (.cells #[.int .i64 (f : Int), .slice (some ⟨gI, 0, none⟩) (k + 1) cI, .slice (some ⟨gP, 0, none⟩) (vs.length + 1) cP] 61 (0, 0)) by rw [hwZ]; exact setCell_row GRY.out _)
                have far : ∀ g, g ≠ RB → wZ.heap[g]? = wX4.heap[g]? := fun g hg => by rw [hwZ, setCell_far _ (Ne.symm hg), HWY.out, setCell_far _ (Ne.symm hg)]
                have HFAR := Lib.hid far
                have hbz : Below RB wX4 wZ := by rw [hwZ, HWY.out]; exact ((Below.refl RB _).setCell (show RB ≤ (⟨RB, 1, none⟩ : Addr).block from Nat.le_refl RB) _).setCell (show RB ≤ (⟨RB, 2, none⟩ : Addr).block from Nat.le_refl RB) _
                have BZ := Lib.hid (show Below RB w2 wZ from HBL.out.trans ((HBB.out.mono (Nat.le_of_lt HSR.out)).trans ((BX4.out.mono (Nat.le_succ _)).trans hbz)))
                have hszz : RB < wZ.heap.size := lt_of_heap GRZ.out
                have HSZZ := Lib.hid hszz
                clear cF2 fF2 far hbz hszz hwZ
                refine HK.out _ _ (fun h => absurd (h 14 rfl) (by decide)) ?_
                clear HK K
                try simp only [Act.put, List.getElem_toArray, List.getElem_cons_zero, List.getElem_cons_succ, List.setIfInBounds_toArray, List.set_cons_zero, List.set_cons_succ]
                refine wpAnyF_done (by kernel_rfl) ?_ _
                have O1Z := Lib.hid (own_far MD4.out.one fun g hg => HFAR.out g (by omega))
                have O2Z := Lib.hid (own_far MD4.out.two fun g hg => HFAR.out g (by omega))
                have PTZ := Lib.hid ((show PathsT wX4 (pthF es f k) vs by
                  have := MD4.out.paths
                  rw [pthF_length, List.take_append_of_le_length (by rw [HVL.out]; exact Nat.le_refl _), List.take_of_length_le (by rw [HVL.out]; exact Nat.le_refl _)] at this
                  exact this).snoc (HTD.out) (c := pc) MD4.out.new |>.map fun _ _ hr => hr.other_type GRF.out (by decide) HFAR.out)
                go_wp2_with fail
                go_roundw
                case rel =>
                  refine ⟨k + 1, q + 1, _, _, vs ++ [.slice pa (tlong q es.length) pc], by go_num, Lib.hid (by have := HQ.out; omega), Lib.hid (by have := HQ.out; have := HQT.out; omega), GRZ, Lib.hid (by rw [List.length_append, HVL.out]; rfl), Lib.hid ?_, Lib.hid ?_, Lib.hid ?_, HSZZ, BZ⟩
                  · rw [HTK.out]; exact O1Z.out
                  · have := O2Z.out
                    rw [List.length_append, HVL.out] at this
                    rw [HVL.out]
                    exact this
                  · rw [HPK.out]
                    have := PTZ.out
                    rw [HTL2.out] at this
                    exact this
                case measure => simp [intOf]; have := HQT.out; omega
            · have HK := Lib.hid hK
              clear hK
              go_simp
              obtain ⟨PB, hPB⟩ : ∃ z, z = wX0.heap.size := ⟨_, rfl⟩
              rw [← hPB]
              obtain ⟨wX1, hwX1⟩ : ∃ z, z = wX0.alloc (.cells #[.slice pa (tlong q es.length) pc] 24) := ⟨_, rfl⟩
              rw [← hwX1]
              have bs : Below wX0.heap.size wX0 wX1 := by rw [hwX1]; exact (Below.refl _ _).alloc (Nat.le_refl _) _
              have BX1 := Lib.hid (show Below (RB + 1) wB wX1 from BX0.out.trans (bs.mono MD0.out.size))
              have MD1 := Lib.hid (MD0.out.map bs)
              have GP1 := Lib.hid (show wX1.heap[PB]? = some (.cells #[.slice pa (tlong q es.length) pc] 24 (0, 0)) by rw [hwX1, hPB]; exact heap_alloc_new _ _)
              have LP1 := Lib.hid (lt_of_heap GP1.out)
              clear hPB hwX1 bs
              have hS : wX1.rangeAt bd (od + q * 33) (eL E) ∧ wX1.cell? ⟨RB, 1, none⟩ = some v1 ∧ wX1.cell? ⟨RB, 2, none⟩ = some v2 := KS.out _ BX1.out
              clear hHeld
              refine HK.out _ _ (fun _ => hS) ?_
              clear HK K
              try simp only [Act.put, List.getElem_toArray, List.getElem_cons_zero, List.getElem_cons_succ, List.setIfInBounds_toArray, List.set_cons_zero, List.set_cons_succ]
              have hHeld := hS
              clear hS
              refine wpAnyF_ready (rs := [6]) (by kernel_rfl) (by simp) ?_
              refine AllReadyF.cons (o := _) rfl (fun K hK => ?_) AllReadyF.nil
              have HK := Lib.hid hK
              clear hK
              refine stepBuild1 40 35 _ 33 40 Tryd.underlying40 info_entz (by omega) (by omega) rfl (.tmp 91) rfl (eV E.key E.val) (by rfl) (eVs HEW.out) ?_
              obtain ⟨IB, hIB⟩ : ∃ z, z = wX1.heap.size := ⟨_, rfl⟩
              rw [← hIB]
              obtain ⟨wX2, hwX2⟩ : ∃ z, z = wX1.alloc (.cells (eV E.key E.val) 35) := ⟨_, rfl⟩
              rw [← hwX2]
              have bs : Below wX1.heap.size wX1 wX2 := by rw [hwX2]; exact (Below.refl _ _).alloc (Nat.le_refl _) _
              have BX2 := Lib.hid (show Below (RB + 1) wB wX2 from BX1.out.trans (bs.mono MD1.out.size))
              have MD2 := Lib.hid (MD1.out.map bs)
              have GP2 := Lib.hid ((bs.block PB LP1.out).trans GP1.out)
              have LP2 := Lib.hid (lt_of_heap GP2.out)
              have GI2 := Lib.hid (show wX2.heap[IB]? = some (.cells (eV E.key E.val) 35 (0, 0)) by rw [hwX2, hIB]; exact heap_alloc_new _ _)
              have LI2 := Lib.hid (lt_of_heap GI2.out)
              clear hIB hwX2 bs
              have hS : wX2.rangeAt bd (od + q * 33) (eL E) ∧ wX2.cell? ⟨RB, 1, none⟩ = some v1 ∧ wX2.cell? ⟨RB, 2, none⟩ = some v2 := KS.out _ BX2.out
              clear hHeld
              refine HK.out _ _ (fun _ => hS) ?_
              clear HK K
              try simp only [Act.put, List.getElem_toArray, List.getElem_cons_zero, List.getElem_cons_succ, List.setIfInBounds_toArray, List.set_cons_zero, List.set_cons_succ]
              have hHeld := hS
              clear hS
              refine wpAnyF_ready (rs := [7]) (by kernel_rfl) (by simp) ?_
              refine AllReadyF.cons (o := _) rfl (fun K hK => ?_) AllReadyF.nil
              have HK := Lib.hid hK
              clear hK
              refine stepAppN 40 35 _ 33 40 Tryd.underlying40 info_entz (show (eV 0 nz).size = 33 from eV_size _ _ rfl) (by omega) (by omega) rfl (.tmp 87) (.tmp 92) (by rfl) (RB + 1) v1 k (cellsE ((es.drop f).take k)) (by rfl) MD2.out.one IB 1 (eL E) (by rfl) (eL_length HEW.out) (fun j hj => by have := range_ent GI2.out j _ (List.getElem?_eq_getElem hj); rwa [Nat.zero_add] at this) (eL_one _) (by omega) MD2.out.size _ rfl ?_
              intro gI cI wX3 hown hgrow hat hlt3
              have BX3 := Lib.hid (show Below (RB + 1) wB wX3 from below_grow BX2.out MD2.out.one hgrow MD2.out.size)
              have hsz3 : wX2.heap.size ≤ wX3.heap.size := hgrow.size
              have MD3 := Lib.hid (MD2.out.app1 hown hgrow hsz3)
              have GP3 := Lib.hid ((hgrow.block PB LP2.out (fun e1 => by
                obtain ⟨c2, t2, f2, h2, rfl⟩ := own_block MD2.out.one PB (by first | exact e1 | exact e1.symm)
                have := GP2.out
                rw [h2] at this
                simp only [Option.some.injEq, Obj.cells.injEq] at this
                exact ent_ne_dgs this.2.1)).trans GP2.out)
              have LP3 := Lib.hid (lt_of_heap GP3.out)
              clear hown hgrow hat hlt3 hsz3
              have hS : wX3.rangeAt bd (od + q * 33) (eL E) ∧ wX3.cell? ⟨RB, 1, none⟩ = some v1 ∧ wX3.cell? ⟨RB, 2, none⟩ = some v2 := KS.out _ BX3.out
              clear hHeld
              refine HK.out _ _ (fun _ => hS) ?_
              clear HK K
              try simp only [Act.put, List.getElem_toArray, List.getElem_cons_zero, List.getElem_cons_succ, List.setIfInBounds_toArray, List.set_cons_zero, List.set_cons_succ]
              have hHeld := hS
              clear hS
              refine wpAnyF_take (fs := [14, 16]) (i := 13) (oi := _) (v := .pointer (some ⟨RB, 1, none⟩)) rfl (by kernel_rfl) (by kernel_rfl) (by kernel_rfl) hFs rfl (by kernel_rfl) (fun _ _ _ h => h) (Or.inl ⟨by rfl, fun w hw => by go_simp⟩) hHeld ?_
              simp only [Act.put, List.getElem_toArray, List.getElem_cons_zero, List.getElem_cons_succ, List.setIfInBounds_toArray, List.set_cons_zero, List.set_cons_succ]
              refine wpAnyF_ready (rs := [12]) (by kernel_rfl) (by simp) ?_
              refine AllReadyF.cons (o := _) rfl (fun K hK => ?_) AllReadyF.nil
              have HK := Lib.hid hK
              clear hK
              refine stepApp1 59 24 _ 24 Tryd.underlying59 info_dgs rfl (by omega) rfl (.tmp 95) (.tmp 97) (by rfl) (RB + 1) v2 vs.length vs (by rfl) MD3.out.two ⟨PB, 0, none⟩ 1 (.slice pa (tlong q es.length) pc) (by rfl) (by rw [cell_of_row _ _ _ _ _ _ GP3.out]; rfl) rfl (by have := HVL.out; omega) MD3.out.size _ rfl ?_
              intro gP cP wX4 hown hgrow hat hlt3
              have BX4 := Lib.hid (show Below (RB + 1) wB wX4 from below_grow BX3.out MD3.out.two hgrow MD3.out.size)
              have hsz3 : wX3.heap.size ≤ wX4.heap.size := hgrow.size
              have MD4 := Lib.hid (MD3.out.app2 (by rw [pthF_length, HVL.out]; exact Nat.le_refl _) hown hgrow hsz3)
              clear hown hgrow hat hlt3 hsz3
              have hS : wX4.rangeAt bd (od + q * 33) (eL E) ∧ wX4.cell? ⟨RB, 1, none⟩ = some v1 ∧ wX4.cell? ⟨RB, 2, none⟩ = some v2 := KS.out _ BX4.out
              clear hHeld
              refine HK.out _ _ (fun _ => hS) ?_
              clear HK K
              try simp only [Act.put, List.getElem_toArray, List.getElem_cons_zero, List.getElem_cons_succ, List.setIfInBounds_toArray, List.set_cons_zero, List.set_cons_succ]
              have hHeld := hS
              clear hS
              have GRF := Lib.hid ((BX4.out.block RB (Nat.lt_succ_self _)).trans GRB.out)
              have cF1 : wX4.cell? ⟨RB, 1, none⟩ = some v1 := (rng_cells GRF.out).2.1
              have fF1 : wX4.frozen? ⟨RB, 1, none⟩ = false := frozen_of_row _ _ _ _ _ GRF.out
              refine wpAnyF_ready (rs := [14]) (by kernel_rfl) (by simp) ?_
              refine AllReadyF.cons (o := _) rfl (fun K hK => ?_) AllReadyF.nil
              have HK := Lib.hid hK
              clear hK
              go_simp
              obtain ⟨wY, hwY⟩ : ∃ z, z = wX4.setCell ⟨RB, 1, none⟩ (.slice (some ⟨gI, 0, none⟩) (k + 1) cI) := ⟨_, rfl⟩
              rw [← hwY]
              have GRY := Lib.hid (show wY.heap[RB]? = some (.cells #[.int .i64 (f : Int), .slice (some ⟨gI, 0, none⟩) (k + 1) cI, v2] 61 (0, 0)) by rw [hwY]; exact setCell_row GRF.out _)
              have HWY := Lib.hid hwY
              clear cF1 fF1 hwY
              have cF2 : wY.cell? ⟨RB, 2, none⟩ = some v2 := (rng_cells GRY.out).2.2
              have fF2 : wY.frozen? ⟨RB, 2, none⟩ = false := frozen_of_row _ _ _ _ _ GRY.out
              refine HK.out _ _ (fun h => absurd (h 14 rfl) (by decide)) ?_
              clear HK K hHeld
              try simp only [Act.put, List.getElem_toArray, List.getElem_cons_zero, List.getElem_cons_succ, List.setIfInBounds_toArray, List.set_cons_zero, List.set_cons_succ]
              refine wpAnyF_ready (rs := [15]) (by kernel_rfl) (by simp) ?_
              refine AllReadyF.cons (o := _) rfl (fun K hK => ?_) AllReadyF.nil
              have HK := Lib.hid hK
              clear hK
              go_simp
              refine HK.out _ _ (fun h => absurd (h 14 rfl) (by decide)) ?_
              clear HK K
              try simp only [Act.put, List.getElem_toArray, List.getElem_cons_zero, List.getElem_cons_succ, List.setIfInBounds_toArray, List.set_cons_zero, List.set_cons_succ]
              refine wpAnyF_ready (rs := [16]) (by kernel_rfl) (by simp) ?_
              refine AllReadyF.cons (o := _) rfl (fun K hK => ?_) AllReadyF.nil
              have HK := Lib.hid hK
              clear hK
              go_simp
              obtain ⟨wZ, hwZ⟩ : ∃ z, z = wY.setCell ⟨RB, 2, none⟩ (.slice (some ⟨gP, 0, none⟩) (vs.length + 1) cP) := ⟨_, rfl⟩
              rw [← hwZ]
              have GRZ := Lib.hid (show wZ.heap[RB]? = some (.cells #[.int .i64 (f : Int), .slice (some ⟨gI, 0, none⟩) (k + 1) cI, .slice (some ⟨gP, 0, none⟩) (vs.length + 1) cP] 61 (0, 0)) by rw [hwZ]; exact setCell_row GRY.out _)
              have far : ∀ g, g ≠ RB → wZ.heap[g]? = wX4.heap[g]? := fun g hg => by rw [hwZ, setCell_far _ (Ne.symm hg), HWY.out, setCell_far _ (Ne.symm hg)]
              have HFAR := Lib.hid far
              have hbz : Below RB wX4 wZ := by rw [hwZ, HWY.out]; exact ((Below.refl RB _).setCell (show RB ≤ (⟨RB, 1, none⟩ : Addr).block from Nat.le_refl RB) _).setCell (show RB ≤ (⟨RB, 2, none⟩ : Addr).block from Nat.le_refl RB) _
              have BZ := Lib.hid (show Below RB w2 wZ from HBL.out.trans ((HBB.out.mono (Nat.le_of_lt HSR.out)).trans ((BX4.out.mono (Nat.le_succ _)).trans hbz)))
              have hszz : RB < wZ.heap.size := lt_of_heap GRZ.out
              have HSZZ := Lib.hid hszz
              clear cF2 fF2 far hbz hszz hwZ
              refine HK.out _ _ (fun h => absurd (h 14 rfl) (by decide)) ?_
              clear HK K
              try simp only [Act.put, List.getElem_toArray, List.getElem_cons_zero, List.getElem_cons_succ, List.setIfInBounds_toArray, List.set_cons_zero, List.set_cons_succ]
              refine wpAnyF_done (by kernel_rfl) ?_ _
              have O1Z := Lib.hid (own_far MD4.out.one fun g hg => HFAR.out g (by omega))
              have O2Z := Lib.hid (own_far MD4.out.two fun g hg => HFAR.out g (by omega))
              have PTZ := Lib.hid ((show PathsT wX4 (pthF es f k) vs by
                have := MD4.out.paths
                rw [pthF_length, List.take_append_of_le_length (by rw [HVL.out]; exact Nat.le_refl _), List.take_of_length_le (by rw [HVL.out]; exact Nat.le_refl _)] at this
                exact this).snoc (HTD.out) (c := pc) MD4.out.new |>.map fun _ _ hr => hr.other_type GRF.out (by decide) HFAR.out)
              go_wp2_with fail
              go_roundw
              case rel =>
                refine ⟨k + 1, q + 1, _, _, vs ++ [.slice pa (tlong q es.length) pc], by go_num, Lib.hid (by have := HQ.out; omega), Lib.hid (by have := HQ.out; have := HQT.out; omega), GRZ, Lib.hid (by rw [List.length_append, HVL.out]; rfl), Lib.hid ?_, Lib.hid ?_, Lib.hid ?_, HSZZ, BZ⟩
                · rw [HTK.out]; exact O1Z.out
                · have := O2Z.out
                  rw [List.length_append, HVL.out] at this
                  rw [HVL.out]
                  exact this
                · rw [HPK.out]
                  have := PTZ.out
                  rw [HTL2.out] at this
                  exact this
              case measure => simp [intOf]; have := HQT.out; omega
          · have hk : k = t - f := by have := HQ.out; have := HKT.out; omega
            subst hk
            obtain ⟨ia, ic, hv1⟩ := own_slice HO1.out
            obtain ⟨pa, pc, hv2⟩ := own_slice HO2.out
            subst hv1
            subst hv2
            have y2 : decide ((q : Int) < (t : Int)) = false := decide_eq_false (by omega)
            have y3 : decide (q < t) = false := decide_eq_false hlt
            have hHR : H ≠ RB := by have := HH1.out; rw [HRB.out]; omega
            have GZA := Lib.hid ((BA.out.block H HH1.out).trans GZ.out)
            have HHR := Lib.hid hHR
            clear hlt hHR
            go_wp2_with (first
              | ((refine wpList_load_row rfl _ (.tmp 12) rfl RB (by rfl) _ _ _ _ HRC.out Tryd.underlying61 rfl info_rngF ?_); simp only [Act.put, List.setIfInBounds_toArray, List.set_cons_zero, List.set_cons_succ])
              | ((refine wpList_store_row rfl _ (.tmp 6) (.tmp 101) rfl H #[.int .i64 (f : Int), .slice ia (t - f) ic, .slice pa (t - f) pc] (by rfl) (by rfl) _ #[.int .i64 0, .slice none 0 0, .slice none 0 0] GZA.out info_rngF rfl (rng_one _ _ _ rfl rfl rfl) ?_); simp only [Act.put, List.setIfInBounds_toArray, List.set_cons_zero, List.set_cons_succ]))
            try simp only [Exit.inBlock, Exit.then]
            refine bodyPost_ret (results_cell_tmp rfl _ _ _ ⟨H, 0, none⟩ (.agg #[.int .i64 (f : Int), .slice ia (t - f) ic, .slice pa (t - f) pc]) rfl (rng_load (setRow_heap _ _ _ _ _ _ GZA.out))) rfl ?_
            have hil := itemsF_length (f := f) HTL.out
            have hpl := pathsF_length es f t
            have far : ∀ g, RB + 1 ≤ g → (wA.setRow H #[.int .i64 (f : Int), .slice ia (t - f) ic, .slice pa (t - f) pc]).heap[g]? = wA.heap[g]? := fun g hg => _root_.Go.setRow_other _ _ _ _ (by have := HH1.out; have := HRB.out; omega)
            refine ⟨fun h => absurd HF.out h, fun _ h => absurd h (by have := HAB.out; omega), fun _ _ => ⟨f, t, ia, ic, 35, pa, pc, 24, vs, HFR.out, HTO.out, by rw [hil, hpl]; rfl, Rd.of_own (own_far HO1.out far), Rd.of_own (own_far HO2.out far), ?_⟩, ?_⟩
            · exact (HPT.out.map fun a xs hr => hr.other_type GZA.out (by decide) fun b hb => _root_.Go.setRow_other _ _ _ _ hb).at_
            · rw [← HH.out]; exact below_setRowW (B1.out.trans (Below.mono BA.out (Nat.le_of_lt HH1.out))) (Nat.le_refl _) _
  · have LC2 := LC.mono fun e w' h => (⟨h.1 hf, h.2.2⟩ : e = .returned (.tuple #[.slice none 0 0, .iface 25 (.int .i64 (listF es))]) ∧ Below w0.heap.size w0 w')
    have HLC := Lib.hid LC2
    have HF := Lib.hid hf
    clear LC LC2 hf hr hro hw
    obtain ⟨F, hF⟩ : ∃ F, F = listF es := ⟨_, rfl⟩
    rw [← hF] at HLC
    have HF2 := Lib.hid hF
    clear hF
    go_enter Tryd.func41, Tryd.ntmps41
    go_upto_region 1 with fail
    rw [← HH.out, ← HW0.out]
    go_wp2_with fail
    refine HLC.out.mono ?_
    rintro e w1 ⟨rfl, hb1⟩
    have GZ := Lib.hid ((hb1.block H hsz).trans G0.out)
    have B1 := Lib.hid (BL.out.trans (hb1.mono (by omega)))
    clear hb1
    go_wp2_with ((refine wpList_store_row rfl _ (.tmp 6) (.tmp 23) rfl H #[.int .i64 0, .slice none 0 0, .slice none 0 0] (by rfl) (by rfl) _ #[.int .i64 0, .slice none 0 0, .slice none 0 0] GZ.out info_rngF rfl rngz_one ?_); simp only [Act.put, List.setIfInBounds_toArray, List.set_cons_zero, List.set_cons_succ])
    try simp only [Exit.inBlock, Exit.then]
    refine bodyPost_ret (results_cell_tmp rfl _ _ _ ⟨H, 0, none⟩ (.agg #[.int .i64 0, .slice none 0 0, .slice none 0 0]) rfl (rng_load (setRow_heap _ _ _ _ _ _ GZ.out))) rfl ?_
    exact ⟨fun _ => by rw [← HF2.out]; rfl, fun h => absurd h HF.out, fun h => absurd h HF.out, by rw [← HH.out]; exact below_setRowW B1.out (Nat.le_refl _) _⟩
end Go.Proofs.YtpeomfehdccmmaaDoor
/- Walk of the document's answer: the range of a list from here to there. -/
namespace Go.Proofs.YtpeomfehdccmmaaDoor
open Go.RowKit
set_option linter.unusedVariables false
set_option linter.unusedSimpArgs false

def F9 : Nat → Bool := fun j => j == 9
theorem F9_in : ∀ j, F9 j = true → j ∈ [9] := fun j h => by
  unfold F9 at h
  simpa using h
def F8 : Nat → Bool := fun j => j == 8
theorem F8_in : ∀ j, F8 j = true → j ∈ [8] := fun j h => by
  unfold F8 at h
  simpa using h
theorem own_one_more {es : List En} {f k i : Nat} (hi : i = f + k) (hl : i < es.length) : cellsE ((es.drop f).take (k + 1)) = cellsE ((es.drop f).take k) ++ eL es[i] := by
  have hk1 : k < (es.drop f).length := by rw [List.length_drop]; omega
  subst hi
  rw [List.take_succ_eq_append_getElem hk1, cellsE_append, cellsE_one, List.getElem_drop]
theorem pthF_more (es : List En) {f k i : Nat} (hi : i = f + k) : pthF es f (k + 1) = pthF es f k ++ [tpath (leavesD es) i] := by
  subst hi
  unfold pthF
  rw [List.range_succ, List.map_append]; rfl
set_option maxRecDepth 20000 in
set_option maxHeartbeats 16000000 in
theorem RangeOf_calls (es : List En) (hw : ∀ e ∈ es, EnW e) (hf : listF es = 0) (a : Option Addr) (cap ea : Nat) (lo hi : Int) (hlh : lo ≤ hi) (f t : Nat) (hFr : FromIs es lo f) (hTo : ToIs es hi t) (w : World) (hr : Rd w a ea (cellsE es)) :
    Calls Tryd.prog 44 #[.slice a es.length cap, .int .i64 lo, .int .i64 hi] w fun e w' => (∃ (ia : Option Addr) (ic : Nat) (pa : Option Addr) (pc : Nat) (vs : List Value), e = .returned (.agg #[.int .i64 (f : Int), .slice ia (itemsF es f t).length ic, .slice pa (pathsF es f t).length pc]) ∧ Rd w' ia 35 (cellsE (itemsF es f t)) ∧ Rd w' pa 24 vs ∧ PathsT w' (pathsF es f t) vs) ∧ Below w.heap.size w w' := by
  obtain ⟨H, hH⟩ : ∃ H, H = w.heap.size := ⟨_, rfl⟩
  obtain ⟨w0, hw0⟩ : ∃ z, z = w.alloc (.cells #[.int .i64 0, .slice none 0 0, .slice none 0 0] 61) := ⟨_, rfl⟩
  obtain ⟨w1, hw1⟩ : ∃ z, z = w0.alloc (.cells #[.int .i64 0, .slice none 0 0, .slice none 0 0] 61) := ⟨_, rfl⟩
  have q0 : w0.heap.size = H + 1 := by rw [hw0, hH]; exact World.size_alloc _ _
  have q1 : w1.heap.size = H + 1 + 1 := by rw [hw1, World.size_alloc, q0]
  have s0 : Below (H) w w0 := by rw [hw0, hH]; exact (Below.refl _ _).alloc (Nat.le_refl _) _
  have s1 : Below (H + 1) w0 w1 := by rw [hw1, ← q0]; exact (Below.refl _ _).alloc (Nat.le_refl _) _
  have t1 : Below (H + 1 + 1) w1 w1 := Below.refl _ _
  have t0 : Below (H + 1) w0 w1 := s1.trans (t1.mono (by omega))
  have bL : Below H w w1 := s0.trans (t0.mono (by omega))
  have g0 : w1.heap[H]? = some (.cells #[.int .i64 0, .slice none 0 0, .slice none 0 0] 61 (0, 0)) := by
    have g : w0.heap[H]? = some (.cells #[.int .i64 0, .slice none 0 0, .slice none 0 0] 61 (0, 0)) := by rw [hw0, hH]; exact heap_alloc_new _ _
    exact (t0.block _ (by omega)).trans g
  have g1 : w1.heap[H + 1]? = some (.cells #[.int .i64 0, .slice none 0 0, .slice none 0 0] 61 (0, 0)) := by
    have g : w1.heap[H + 1]? = some (.cells #[.int .i64 0, .slice none 0 0, .slice none 0 0] 61 (0, 0)) := by rw [hw1, ← q0]; exact heap_alloc_new _ _
    exact (t1.block _ (by omega)).trans g
  have bW : Below w.heap.size w w1 := by rw [← hH]; exact bL
  have hsz : H + 1 < w1.heap.size := by omega
  have HH := Lib.hid hH
  have HW0 := Lib.hid hw0
  have HW1 := Lib.hid hw1
  have BL := Lib.hid bL
  have BW := Lib.hid bW
  have QL := Lib.hid q1
  have G0 := Lib.hid g0
  have G1 := Lib.hid g1
  clear hH hw0 hw1 q0 q1 s0 s1 t0 t1 g0 g1 bL bW
  obtain ⟨RB, hRB⟩ : ∃ z, z = H + 1 := ⟨_, rfl⟩
  have HRB := Lib.hid hRB
  have GB0 := Lib.hid (show w1.heap[RB]? = some (.cells #[.int .i64 0, .slice none 0 0, .slice none 0 0] 61 (0, 0)) by rw [hRB]; exact G1.out)
  have HL := Lib.hid (show ∀ e ∈ es, e.val.length = 32 from fun e he => (hw e he).1)
  have HF := Lib.hid hf
  obtain ⟨h256, hko, hup⟩ := listF_ok hf
  have IC := ItemLeaves_calls es hw hko a cap ea w1 (hr.below BW.out) (by omega)
  have HIC := Lib.hid IC
  have R1 := Lib.hid (hr.below BW.out)
  have R0 := Lib.hid hr
  have HUP := Lib.hid hup
  have HAB := Lib.hid hlh
  have HFR := Lib.hid hFr
  have HTO := Lib.hid hTo
  have htl := hTo.1
  have hfl := hFr.2.2
  have hsz1 : RB < w1.heap.size := by rw [hRB]; exact hsz
  have HSZ1 := Lib.hid hsz1
  clear IC hup hlh hFr hTo hf hko hr hw
  go_enter Tryd.func44, Tryd.ntmps44
  go_upto_region 2 with fail
  rw [← HH.out, ← HW0.out, ← HW1.out, ← HRB.out]
  go_wp2_with fail
  refine HIC.out.mono ?_
  rintro e w2 ⟨al, cl, rfl, how, hb2⟩
  have GB2 := Lib.hid ((hb2.block RB HSZ1.out).trans GB0.out)
  have GZ2 := Lib.hid ((hb2.block H (by omega)).trans G0.out)
  have R2 := Lib.hid (R1.out.below hb2)
  have LV2 := Lib.hid (Rd.of_own how)
  have CP := Lib.hid (own_cappW how)
  have BW2 := Lib.hid (BW.out.trans (hb2.mono BW.out.size))
  have BL2 := Lib.hid (BL.out.trans (hb2.mono (by rw [HRB.out] at hsz1; omega)))
  have HSZ2 := Lib.hid (show RB < w2.heap.size from Nat.lt_of_lt_of_le hsz1 hb2.size)
  clear how hb2 hsz1 hRB
  go_wp2_with fail
  go_loopw [9] (fun iv wr => ∃ (i k : Nat) (v1 v2 : Value) (vs : List Value) (fr : Int), iv = .int .i64 (i : Int) ∧ Hid (i ≤ es.length) ∧ Hid (k = min i t - f) ∧ Hid (fr = if k = 0 then 0 else (f : Int)) ∧ Hid (wr.heap[RB]? = some (.cells #[.int .i64 fr, v1, v2] 61 (0, 0))) ∧ Hid (vs.length = k) ∧ Hid (wr.ownsRow (RB + 1) 35 33 v1 k (cellsE ((es.drop f).take k))) ∧ Hid (wr.ownsRow (RB + 1) 24 1 v2 k vs) ∧ Hid (PathsT wr (pthF es f k) vs) ∧ Hid (Rd wr al 23 ((leavesD es).flatten.map vB)) ∧ Hid (RB < wr.heap.size) ∧ Hid (Below RB w2 wr)) (fun iv _ => es.length - (intOf iv).toNat)
  case atStart => exact ⟨0, 0, .slice none 0 0, .slice none 0 0, [], 0, rfl, Lib.hid (Nat.zero_le _), Lib.hid (by omega), Lib.hid rfl, GB2, Lib.hid rfl, Lib.hid (World.ownsRow_nil _ _ _ _), Lib.hid (World.ownsRow_nil _ _ _ _), Lib.hid ⟨rfl, fun i hi => absurd hi (by simp [pthF])⟩, LV2, HSZ2, Lib.hid (Below.refl _ _)⟩
  case round =>
    obtain ⟨i, k, v1, v2, vs, fr, rfl, HI, HK, HFRV, HRC, HVL, HO1, HO2, HPT, HLV, HSR, HBL⟩ := hrel
    obtain ⟨wA, rfl⟩ : ∃ z, z = wr := ⟨_, rfl⟩
    by_cases hlt : i < es.length
    · have y1 : decide ((i : Int) < (es.length : Int)) = true := decide_eq_true (by omega)
      have y1b : decide (i < es.length) = true := decide_eq_true hlt
      obtain ⟨ba, oa, hba, hbl, hre00⟩ := R0.out.ent HL.out hlt
      subst hba
      have hre := range_keep BW2.out hre00 hbl
      obtain ⟨E, hE⟩ : ∃ E, E = es[i] := ⟨_, rfl⟩
      have hre0 := hre
      rw [← hE] at hre
      have HRE := Lib.hid hre
      have HBA := Lib.hid (show ba < RB by rw [HRB.out, HH.out]; omega)
      have HEW := Lib.hid (show E.val.length = 32 by rw [hE]; exact HL.out _ (List.getElem_mem _))
      have HE := Lib.hid hE
      have HLT := Lib.hid hlt
      obtain ⟨x, hx⟩ : ∃ x, x = E.key := ⟨_, rfl⟩
      have HX := Lib.hid (show x = es[i].key from hx.trans (congrArg En.key hE))
      have ck : wA.cell? ⟨ba, oa + i * 33, none⟩ = some (.int .i64 x) := by
        rw [hx]
        exact (HBL.out.cell (p := ⟨ba, oa + i * 33, none⟩) HBA.out).trans (range_ekey HRE.out)
      have HTD := Lib.hid (tpath_dig _ (leavesD es) i (Nat.le_refl _) (leavesD_dig es))
      have HTL2 := Lib.hid (show (tpath (leavesD es) i).length = tlong i es.length by rw [tpath_long _ _ _ (Nat.le_refl _), leavesD_length])
      have hinfoE : (Tryd.prog.info? 35).map (·.size) = some (eL E).length := by rw [eL_length HEW.out]; exact info_ent
      have j0 : (0 : Int) ≤ (i : Int) := by omega
      have j1 : (i : Int) < (es.length : Int) := by omega
      have hTI : ((lo ≤ x ∧ x ≤ hi) ∨ (x < lo ∧ i = f) ∨ (hi < x ∧ i + 1 = t)) ↔ (f ≤ i ∧ i < t) := by
        rw [HX.out]; exact told_is HUP.out HAB.out HFR.out HTO.out hlt
      have hLB : (x < lo ∧ (i + 1 = es.length ∨ ∃ h : i + 1 < es.length, lo ≤ es[i + 1].key)) ↔ (x < lo ∧ i = f) := by
        rw [HX.out]; exact last_below HUP.out HFR.out hlt
      have hFA : (hi < x ∧ (i = 0 ∨ ∃ h : i - 1 < es.length, es[i - 1].key ≤ hi)) ↔ (hi < x ∧ i + 1 = t) := by
        rw [HX.out]; exact first_above HUP.out HTO.out hlt
      obtain ⟨q1, hq1⟩ : ∃ q, q = i + 1 := ⟨_, rfl⟩
      obtain ⟨l1, hl1⟩ : ∃ q, q = es.length - 1 := ⟨_, rfl⟩
      have e4 : IntKind.i64.wrap ((i : Int) + 1) = (q1 : Int) := by rw [IntWalk.i64_in _ (by omega)]; omega
      have e6 : IntKind.i64.wrap ((es.length : Int) - 1) = (l1 : Int) := by rw [IntWalk.i64_in _ (by omega)]; omega
      have HQ1 := Lib.hid hq1
      have hk256 : k ≤ 256 := by have := HK.out; omega
      clear hre hre0 hre00 hE hx hbl
      by_cases hxl : x < lo
      · have a1 : decide (x < lo) = true := decide_eq_true hxl
        have a2 : decide (lo ≤ x) = false := decide_eq_false (by omega)
        have a3 : decide (hi < x) = false := decide_eq_false (by have := HAB.out; omega)
        by_cases hil : i + 1 = es.length
        · have a4 : ((i : Int) == (l1 : Int)) = true := by rw [beq_iff_eq]; omega
          have a5 : (i == l1) = true := by rw [beq_iff_eq]; omega
          have hif := (hLB.1 ⟨hxl, .inl hil⟩).2
          obtain ⟨hfi, hit⟩ := hTI.1 (.inr (.inl ⟨hxl, hif⟩))
          have hk0 : k = 0 := by have := HK.out; omega
          clear hxl hil hif hTI hLB hFA hq1 hl1
          have HKI := Lib.hid (show i = f + k by have := HK.out; omega)
          have HIT := Lib.hid hit
          have hif : i = f := by have := HK.out; omega
          obtain ⟨ia0, ic0, hv1⟩ := own_slice HO1.out
          have hv10 : v1 = .slice ia0 0 ic0 := by rw [hv1, hk0]
          have cA0 : wA.cell? ⟨RB, 0, none⟩ = some (.int .i64 fr) := (rng_cells HRC.out).1
          have fA0 : wA.frozen? ⟨RB, 0, none⟩ = false := frozen_of_row _ _ _ _ _ HRC.out
          have cA1 : wA.cell? ⟨RB, 1, none⟩ = some (.slice ia0 0 ic0) := by rw [← hv10]; exact (rng_cells HRC.out).2.1
          have HIF := Lib.hid hif
          clear hv1 hv10 hif hfi hit hk0
          go_upto_region 12 with fail
          obtain ⟨wC, hwC⟩ : ∃ z, z = wA.setCell ⟨RB, 0, none⟩ (.int .i64 (i : Int)) := ⟨_, rfl⟩
          rw [← hwC]
          have GRC := Lib.hid (show wC.heap[RB]? = some (.cells #[.int .i64 (f : Int), v1, v2] 61 (0, 0)) by rw [hwC, HIF.out]; exact setCell_row HRC.out _)
          have far0 := Lib.hid (show ∀ g, g ≠ RB → wC.heap[g]? = wA.heap[g]? from fun g hg => by rw [hwC, setCell_far _ (Ne.symm hg)])
          have HO1C := Lib.hid (own_far HO1.out fun g hg => far0.out g (by omega))
          have HO2C := Lib.hid (own_far HO2.out fun g hg => far0.out g (by omega))
          have HPTC := Lib.hid (HPT.out.map fun _ _ hr => hr.other_type HRC.out (by decide) far0.out)
          have HLVC := Lib.hid (HLV.out.other_type HRC.out (by decide) far0.out)
          have HSRC := Lib.hid (show RB < wC.heap.size from lt_of_heap GRC.out)
          have HBLC := Lib.hid (show Below RB w2 wC from HBL.out.trans (by rw [hwC]; exact (Below.refl RB _).setCell (show RB ≤ (⟨RB, 0, none⟩ : Addr).block from Nat.le_refl RB) _))
          clear hwC cA0 fA0 cA1 far0
          have hrC : wC.rangeAt ba (oa + i * 33) (eL E) := fun j v hj => (HBLC.out.cell (p := ⟨ba, oa + i * 33 + j, none⟩) HBA.out).trans (HRE.out j v hj)
          have MDC := Lib.hid (show Made wC (RB + 1) v1 k (cellsE ((es.drop f).take k)) v2 vs (pthF es f k) al ((leavesD es).flatten.map vB) from ⟨HO1C.out, by rw [HVL.out]; exact HO2C.out, by rw [List.take_of_length_le (by rw [pthF_length, HVL.out]; exact Nat.le_refl _)]; exact HPTC.out, HLVC.out, HSRC.out⟩)
          have hbaC : ba < RB + 1 := by have := HBA.out; omega
          have KS := Lib.hid (show ∀ w', Below (RB + 1) wC w' → w'.rangeAt ba (oa + i * 33) (eL E) ∧ w'.cell? ⟨RB, 1, none⟩ = some v1 from fun w' hb => ⟨fun j v hj => (hb.cell (p := ⟨ba, oa + i * 33 + j, none⟩) hbaC).trans (hrC j v hj), (hb.cell (p := ⟨RB, 1, none⟩) (Nat.lt_succ_self _)).trans (rng_cells GRC.out).2.1⟩)
          clear hrC hbaC
          go_wp2_with fail
          refine wp_region_final_drew F9 (fun w' => w'.rangeAt ba (oa + i * 33) (eL E) ∧ w'.cell? ⟨RB, 1, none⟩ = some v1) (by kernel_rfl) (KS.out wC.drew ((Below.refl _ _).drew)) (fun hHeld => ?_)
          obtain ⟨wX0, hwX0⟩ : ∃ z, z = wC.drew := ⟨_, rfl⟩
          have BX0 := Lib.hid (show Below (RB + 1) wC wX0 by rw [hwX0]; exact (Below.refl _ _).drew)
          have MD0 := Lib.hid (MDC.out.map (show Below wC.heap.size wC wX0 by rw [hwX0]; exact (Below.refl _ _).drew))
          rw [← hwX0] at hHeld ⊢
          clear hwX0
          refine wpAnyF_take (fs := [9]) (i := 0) (oi := _) (v := .pointer (some ⟨RB, 1, none⟩)) rfl (by kernel_rfl) (by kernel_rfl) (by kernel_rfl) F9_in rfl (by kernel_rfl) (fun _ _ _ h => h) (Or.inl ⟨by rfl, fun w hw => by go_simp⟩) hHeld ?_
          simp only [Act.put, List.getElem_toArray, List.getElem_cons_zero, List.getElem_cons_succ, List.setIfInBounds_toArray, List.set_cons_zero, List.set_cons_succ]
          refine wpAnyF_take (fs := [9]) (i := 1) (oi := _) (v := v1) rfl (by kernel_rfl) (by kernel_rfl) (by kernel_rfl) F9_in rfl (by kernel_rfl) (fun _ _ _ h => h) (Or.inl ⟨by rfl, fun w hw => by have hc := hw.2; clear hw; go_simp⟩) hHeld ?_
          simp only [Act.put, List.getElem_toArray, List.getElem_cons_zero, List.getElem_cons_succ, List.setIfInBounds_toArray, List.set_cons_zero, List.set_cons_succ]
          refine wpAnyF_take (fs := [9]) (i := 2) (oi := _) (v := .slice (some ⟨ba, oa, none⟩) es.length cap) rfl (by kernel_rfl) (by kernel_rfl) (by kernel_rfl) F9_in rfl (by kernel_rfl) (fun _ _ _ h => h) (Or.inl ⟨by rfl, fun w hw => by go_simp⟩) hHeld ?_
          simp only [Act.put, List.getElem_toArray, List.getElem_cons_zero, List.getElem_cons_succ, List.setIfInBounds_toArray, List.set_cons_zero, List.set_cons_succ]
          refine wpAnyF_take (fs := [9]) (i := 3) (oi := _) (v := .int .i64 (i : Int)) rfl (by kernel_rfl) (by kernel_rfl) (by kernel_rfl) F9_in rfl (by kernel_rfl) (fun _ _ _ h => h) (Or.inl ⟨by rfl, fun w hw => by go_simp⟩) hHeld ?_
          simp only [Act.put, List.getElem_toArray, List.getElem_cons_zero, List.getElem_cons_succ, List.setIfInBounds_toArray, List.set_cons_zero, List.set_cons_succ]
          refine wpAnyF_take (fs := [9]) (i := 4) (oi := _) (v := .pointer (some ⟨ba, oa + i * 33, none⟩)) rfl (by kernel_rfl) (by kernel_rfl) (by kernel_rfl) F9_in rfl (by kernel_rfl) (fun _ _ _ h => h) (Or.inl ⟨by rfl, fun w hw => by go_simp⟩) hHeld ?_
          simp only [Act.put, List.getElem_toArray, List.getElem_cons_zero, List.getElem_cons_succ, List.setIfInBounds_toArray, List.set_cons_zero, List.set_cons_succ]
          refine wpAnyF_take (fs := [9]) (i := 5) (oi := _) (v := .agg (eV E.key E.val)) rfl (by kernel_rfl) (by kernel_rfl) (by kernel_rfl) F9_in rfl (by kernel_rfl) (fun _ _ _ h => h) (yieldsIf_load_mid (by rfl) _ _ rfl _ _ rfl (eL E) _ (fun w hw => hw.1) Tryd.underlying35 rfl hinfoE) hHeld ?_
          simp only [Act.put, List.getElem_toArray, List.getElem_cons_zero, List.getElem_cons_succ, List.setIfInBounds_toArray, List.set_cons_zero, List.set_cons_succ]
          refine wpAnyF_ready (rs := [6]) (by kernel_rfl) (by simp) ?_
          refine AllReadyF.cons (o := _) rfl (fun K hK => ?_) AllReadyF.nil
          have HK_ := Lib.hid hK
          clear hK
          refine stepBuild1 40 35 _ 33 40 Tryd.underlying40 info_entz (by omega) (by omega) rfl (.tmp 88) rfl (eV E.key E.val) (by rfl) (eVs HEW.out) ?_
          obtain ⟨IB, hIB⟩ : ∃ z, z = wX0.heap.size := ⟨_, rfl⟩
          rw [← hIB]
          obtain ⟨wX1, hwX1⟩ : ∃ z, z = wX0.alloc (.cells (eV E.key E.val) 35) := ⟨_, rfl⟩
          rw [← hwX1]
          have bs : Below wX0.heap.size wX0 wX1 := by rw [hwX1]; exact (Below.refl _ _).alloc (Nat.le_refl _) _
          have BX1 := Lib.hid (show Below (RB + 1) wC wX1 from BX0.out.trans (bs.mono MD0.out.size))
          have MD1 := Lib.hid (MD0.out.map bs)
          have GI1 := Lib.hid (show wX1.heap[IB]? = some (.cells (eV E.key E.val) 35 (0, 0)) by rw [hwX1, hIB]; exact heap_alloc_new _ _)
          clear hIB hwX1 bs
          have hS : wX1.rangeAt ba (oa + i * 33) (eL E) ∧ wX1.cell? ⟨RB, 1, none⟩ = some v1 := KS.out _ BX1.out
          clear hHeld
          refine HK_.out _ _ (fun _ => hS) ?_
          clear HK_ K
          try simp only [Act.put, List.getElem_toArray, List.getElem_cons_zero, List.getElem_cons_succ, List.setIfInBounds_toArray, List.set_cons_zero, List.set_cons_succ]
          have hHeld := hS
          clear hS
          refine wpAnyF_ready (rs := [7]) (by kernel_rfl) (by simp) ?_
          refine AllReadyF.cons (o := _) rfl (fun K hK => ?_) AllReadyF.nil
          have HK_ := Lib.hid hK
          clear hK
          refine stepAppN 40 35 _ 33 40 Tryd.underlying40 info_entz (show (eV 0 nz).size = 33 from eV_size _ _ rfl) (by omega) (by omega) rfl (.tmp 84) (.tmp 89) (by rfl) (RB + 1) v1 k (cellsE ((es.drop f).take k)) (by rfl) MD1.out.one IB 1 (eL E) (by rfl) (eL_length HEW.out) (fun j hj => by have := range_ent GI1.out j _ (List.getElem?_eq_getElem hj); rwa [Nat.zero_add] at this) (eL_one _) (by omega) MD1.out.size _ rfl ?_
          intro gI cI wX2 hown hgrow hat hlt3
          have BX2 := Lib.hid (show Below (RB + 1) wC wX2 from below_grow BX1.out MD1.out.one hgrow MD1.out.size)
          have MD2 := Lib.hid (MD1.out.app1 hown hgrow hgrow.size)
          clear hown hgrow hat hlt3
          have hS : wX2.rangeAt ba (oa + i * 33) (eL E) ∧ wX2.cell? ⟨RB, 1, none⟩ = some v1 := KS.out _ BX2.out
          clear hHeld
          refine HK_.out _ _ (fun _ => hS) ?_
          clear HK_ K
          try simp only [Act.put, List.getElem_toArray, List.getElem_cons_zero, List.getElem_cons_succ, List.setIfInBounds_toArray, List.set_cons_zero, List.set_cons_succ]
          have hHeld := hS
          clear hS
          have GRF := Lib.hid ((BX2.out.block RB (Nat.lt_succ_self _)).trans GRC.out)
          have cF1 : wX2.cell? ⟨RB, 1, none⟩ = some v1 := (rng_cells GRF.out).2.1
          have fF1 : wX2.frozen? ⟨RB, 1, none⟩ = false := frozen_of_row _ _ _ _ _ GRF.out
          refine wpAnyF_ready (rs := [8]) (by kernel_rfl) (by simp) ?_
          refine AllReadyF.cons (o := _) rfl (fun K hK => ?_) AllReadyF.nil
          have HK_ := Lib.hid hK
          clear hK
          go_simp
          have hS : wX2.rangeAt ba (oa + i * 33) (eL E) ∧ wX2.cell? ⟨RB, 1, none⟩ = some v1 := KS.out _ BX2.out
          clear hHeld
          refine HK_.out _ _ (fun _ => hS) ?_
          clear HK_ K
          try simp only [Act.put, List.getElem_toArray, List.getElem_cons_zero, List.getElem_cons_succ, List.setIfInBounds_toArray, List.set_cons_zero, List.set_cons_succ]
          have hHeld := hS
          clear hS
          refine wpAnyF_ready (rs := [9]) (by kernel_rfl) (by simp) ?_
          refine AllReadyF.cons (o := _) rfl (fun K hK => ?_) AllReadyF.nil
          have HK_ := Lib.hid hK
          clear hK
          go_simp
          obtain ⟨wY, hwY⟩ : ∃ z, z = wX2.setCell ⟨RB, 1, none⟩ (.slice (some ⟨gI, 0, none⟩) (k + 1) cI) := ⟨_, rfl⟩
          rw [← hwY]
          have GRY := Lib.hid (show wY.heap[RB]? = some (.cells #[.int .i64 (f : Int), .slice (some ⟨gI, 0, none⟩) (k + 1) cI, v2] 61 (0, 0)) by rw [hwY]; exact setCell_row GRF.out _)
          have HFAR := Lib.hid (show ∀ g, g ≠ RB → wY.heap[g]? = wX2.heap[g]? from fun g hg => by rw [hwY, setCell_far _ (Ne.symm hg)])
          have BY := Lib.hid (show Below RB w2 wY from HBLC.out.trans ((BX2.out.mono (Nat.le_succ _)).trans (by rw [hwY]; exact (Below.refl RB _).setCell (show RB ≤ (⟨RB, 1, none⟩ : Addr).block from Nat.le_refl RB) _)))
          have HSY := Lib.hid (show RB < wY.heap.size from lt_of_heap GRY.out)
          clear cF1 fF1 hwY hHeld
          refine HK_.out _ _ (fun h => absurd (h 9 rfl) (by decide)) ?_
          clear HK_ K
          try simp only [Act.put, List.getElem_toArray, List.getElem_cons_zero, List.getElem_cons_succ, List.setIfInBounds_toArray, List.set_cons_zero, List.set_cons_succ]
          refine wpAnyF_done (by kernel_rfl) ?_ _
          have MDY := Lib.hid (show Made wY (RB + 1) (.slice (some ⟨gI, 0, none⟩) (k + 1) cI) (k + 1) (cellsE ((es.drop f).take k) ++ eL E) v2 vs (pthF es f k) al ((leavesD es).flatten.map vB) from ⟨own_far MD2.out.one fun g hg => HFAR.out g (by omega), own_far MD2.out.two fun g hg => HFAR.out g (by omega), MD2.out.paths.map fun _ _ hr => hr.other_type GRF.out (by decide) HFAR.out, MD2.out.new.other_type GRF.out (by decide) HFAR.out, HSY.out⟩)
          clear KS MDC MD0 MD1 MD2 GI1 BX0 BX1 BX2 GRF HFAR HO1C HO2C HPTC HLVC HSRC
          have PC := RPath_calls es.length (leavesD es) i (by rw [leavesD_length]; exact Nat.le_refl _) (by rw [leavesD_length]; omega) (by rw [leavesD_length]; exact HLT.out) (leavesD_dig es) al cl 23 (by rw [leavesD_length]; exact CP.out.1) CP.out.2
          rw [leavesD_length] at PC
          have HPC := Lib.hid PC
          have KS := Lib.hid (show ∀ w', Below (RB + 1) wY w' → w'.cell? ⟨RB, 2, none⟩ = some v2 from fun w' hb => (hb.cell (p := ⟨RB, 2, none⟩) (Nat.lt_succ_self _)).trans (rng_cells GRY.out).2.2)
          clear PC
          go_wp2_with fail
          refine wp_region_final_drew F8 (fun w' => w'.cell? ⟨RB, 2, none⟩ = some v2) (by kernel_rfl) (KS.out wY.drew ((Below.refl _ _).drew)) (fun hHeld => ?_)
          obtain ⟨wU0, hwU0⟩ : ∃ z, z = wY.drew := ⟨_, rfl⟩
          have BU0 := Lib.hid (show Below (RB + 1) wY wU0 by rw [hwU0]; exact (Below.refl _ _).drew)
          have MU0 := Lib.hid (MDY.out.map (show Below wY.heap.size wY wU0 by rw [hwU0]; exact (Below.refl _ _).drew))
          rw [← hwU0] at hHeld ⊢
          clear hwU0
          refine wpAnyF_take (fs := [8]) (i := 0) (oi := _) (v := .pointer (some ⟨RB, 2, none⟩)) rfl (by kernel_rfl) (by kernel_rfl) (by kernel_rfl) F8_in rfl (by kernel_rfl) (fun _ _ _ h => h) (Or.inl ⟨by rfl, fun w hw => by go_simp⟩) hHeld ?_
          simp only [Act.put, List.getElem_toArray, List.getElem_cons_zero, List.getElem_cons_succ, List.setIfInBounds_toArray, List.set_cons_zero, List.set_cons_succ]
          refine wpAnyF_take (fs := [8]) (i := 1) (oi := _) (v := v2) rfl (by kernel_rfl) (by kernel_rfl) (by kernel_rfl) F8_in rfl (by kernel_rfl) (fun _ _ _ h => h) (Or.inl ⟨by rfl, fun w hw => by have hc := hw; clear hw; go_simp⟩) hHeld ?_
          simp only [Act.put, List.getElem_toArray, List.getElem_cons_zero, List.getElem_cons_succ, List.setIfInBounds_toArray, List.set_cons_zero, List.set_cons_succ]
          refine wpAnyF_take (fs := [8]) (i := 2) (oi := _) (v := .slice al es.length cl) rfl (by kernel_rfl) (by kernel_rfl) (by kernel_rfl) F8_in rfl (by kernel_rfl) (fun _ _ _ h => h) (Or.inl ⟨by rfl, fun w hw => by go_simp⟩) hHeld ?_
          simp only [Act.put, List.getElem_toArray, List.getElem_cons_zero, List.getElem_cons_succ, List.setIfInBounds_toArray, List.set_cons_zero, List.set_cons_succ]
          refine wpAnyF_take (fs := [8]) (i := 3) (oi := _) (v := .int .i64 (i : Int)) rfl (by kernel_rfl) (by kernel_rfl) (by kernel_rfl) F8_in rfl (by kernel_rfl) (fun _ _ _ h => h) (Or.inl ⟨by rfl, fun w hw => by go_simp⟩) hHeld ?_
          simp only [Act.put, List.getElem_toArray, List.getElem_cons_zero, List.getElem_cons_succ, List.setIfInBounds_toArray, List.set_cons_zero, List.set_cons_succ]
          refine wpAnyF_ready (rs := [4]) (by kernel_rfl) (by simp) ?_
          refine AllReadyF.cons (o := _) rfl (fun K hK => ?_) AllReadyF.nil
          have HK_ := Lib.hid hK
          clear hK
          go_simp
          go_at_call 40
          refine (HPC.out wU0 MU0.out.new).mono ?_
          rintro e wU1 ⟨pa, pc, rfl, hown, hbU⟩
          dsimp only
          have BU1 := Lib.hid (show Below (RB + 1) wY wU1 from BU0.out.trans (hbU.mono MU0.out.size))
          have MU1 := Lib.hid (MU0.out.map hbU)
          have NP1 := Lib.hid (Rd.of_own hown)
          clear hown hbU HPC
          have hS : wU1.cell? ⟨RB, 2, none⟩ = some v2 := KS.out _ BU1.out
          clear hHeld
          refine HK_.out _ _ (fun _ => hS) ?_
          clear HK_ K
          try simp only [Act.put, List.getElem_toArray, List.getElem_cons_zero, List.getElem_cons_succ, List.setIfInBounds_toArray, List.set_cons_zero, List.set_cons_succ]
          have hHeld := hS
          clear hS
          refine wpAnyF_ready (rs := [5]) (by kernel_rfl) (by simp) ?_
          refine AllReadyF.cons (o := _) rfl (fun K hK => ?_) AllReadyF.nil
          have HK_ := Lib.hid hK
          clear hK
          go_simp
          obtain ⟨PB, hPB⟩ : ∃ z, z = wU1.heap.size := ⟨_, rfl⟩
          rw [← hPB]
          obtain ⟨wU2, hwU2⟩ : ∃ z, z = wU1.alloc (.cells #[.slice pa (tlong i es.length) pc] 24) := ⟨_, rfl⟩
          rw [← hwU2]
          have bs : Below wU1.heap.size wU1 wU2 := by rw [hwU2]; exact (Below.refl _ _).alloc (Nat.le_refl _) _
          have BU2 := Lib.hid (show Below (RB + 1) wY wU2 from BU1.out.trans (bs.mono MU1.out.size))
          have MU2 := Lib.hid (MU1.out.map bs)
          have NP2 := Lib.hid (NP1.out.below bs)
          have GP2 := Lib.hid (show wU2.heap[PB]? = some (.cells #[.slice pa (tlong i es.length) pc] 24 (0, 0)) by rw [hwU2, hPB]; exact heap_alloc_new _ _)
          clear hPB hwU2 bs
          have hS : wU2.cell? ⟨RB, 2, none⟩ = some v2 := KS.out _ BU2.out
          clear hHeld
          refine HK_.out _ _ (fun _ => hS) ?_
          clear HK_ K
          try simp only [Act.put, List.getElem_toArray, List.getElem_cons_zero, List.getElem_cons_succ, List.setIfInBounds_toArray, List.set_cons_zero, List.set_cons_succ]
          have hHeld := hS
          clear hS
          refine wpAnyF_ready (rs := [6]) (by kernel_rfl) (by simp) ?_
          refine AllReadyF.cons (o := _) rfl (fun K hK => ?_) AllReadyF.nil
          have HK_ := Lib.hid hK
          clear hK
          refine stepApp1 59 24 _ 24 Tryd.underlying59 info_dgs rfl (by omega) rfl (.tmp 93) (.tmp 97) (by rfl) (RB + 1) v2 vs.length vs (by rfl) MU2.out.two ⟨PB, 0, none⟩ 1 (.slice pa (tlong i es.length) pc) (by rfl) (by rw [cell_of_row _ _ _ _ _ _ GP2.out]; rfl) rfl (by have := HVL.out; omega) MU2.out.size _ rfl ?_
          intro gP cP wU3 hown hgrow hat hlt3
          have BU3 := Lib.hid (show Below (RB + 1) wY wU3 from below_grow BU2.out MU2.out.two hgrow MU2.out.size)
          have MU3 := Lib.hid (MU2.out.app2 (by rw [pthF_length, HVL.out]; exact Nat.le_refl _) hown hgrow hgrow.size)
          have NP3 := Lib.hid (NP2.out.other_app MU2.out.two hgrow dgs_ne_dig)
          clear hown hgrow hat hlt3
          have hS : wU3.cell? ⟨RB, 2, none⟩ = some v2 := KS.out _ BU3.out
          clear hHeld
          refine HK_.out _ _ (fun _ => hS) ?_
          clear HK_ K
          try simp only [Act.put, List.getElem_toArray, List.getElem_cons_zero, List.getElem_cons_succ, List.setIfInBounds_toArray, List.set_cons_zero, List.set_cons_succ]
          have hHeld := hS
          clear hS
          have GRF := Lib.hid ((BU3.out.block RB (Nat.lt_succ_self _)).trans GRY.out)
          have cF1 : wU3.cell? ⟨RB, 2, none⟩ = some v2 := (rng_cells GRF.out).2.2
          have fF1 : wU3.frozen? ⟨RB, 2, none⟩ = false := frozen_of_row _ _ _ _ _ GRF.out
          refine wpAnyF_ready (rs := [7]) (by kernel_rfl) (by simp) ?_
          refine AllReadyF.cons (o := _) rfl (fun K hK => ?_) AllReadyF.nil
          have HK_ := Lib.hid hK
          clear hK
          go_simp
          have hS : wU3.cell? ⟨RB, 2, none⟩ = some v2 := KS.out _ BU3.out
          clear hHeld
          refine HK_.out _ _ (fun _ => hS) ?_
          clear HK_ K
          try simp only [Act.put, List.getElem_toArray, List.getElem_cons_zero, List.getElem_cons_succ, List.setIfInBounds_toArray, List.set_cons_zero, List.set_cons_succ]
          have hHeld := hS
          clear hS
          refine wpAnyF_ready (rs := [8]) (by kernel_rfl) (by simp) ?_
          refine AllReadyF.cons (o := _) rfl (fun K hK => ?_) AllReadyF.nil
          have HK_ := Lib.hid hK
          clear hK
          go_simp
          obtain ⟨wZ, hwZ⟩ : ∃ z, z = wU3.setCell ⟨RB, 2, none⟩ (.slice (some ⟨gP, 0, none⟩) (vs.length + 1) cP) := ⟨_, rfl⟩
          rw [← hwZ]
          have GRZ := Lib.hid (show wZ.heap[RB]? = some (.cells #[.int .i64 (f : Int), .slice (some ⟨gI, 0, none⟩) (k + 1) cI, .slice (some ⟨gP, 0, none⟩) (vs.length + 1) cP] 61 (0, 0)) by rw [hwZ]; exact setCell_row GRF.out _)
          have HFAR := Lib.hid (show ∀ g, g ≠ RB → wZ.heap[g]? = wU3.heap[g]? from fun g hg => by rw [hwZ, setCell_far _ (Ne.symm hg)])
          have BZ := Lib.hid (show Below RB w2 wZ from BY.out.trans ((BU3.out.mono (Nat.le_succ _)).trans (by rw [hwZ]; exact (Below.refl RB _).setCell (show RB ≤ (⟨RB, 2, none⟩ : Addr).block from Nat.le_refl RB) _)))
          have HSZ := Lib.hid (show RB < wZ.heap.size from lt_of_heap GRZ.out)
          clear cF1 fF1 hwZ hHeld
          refine HK_.out _ _ (fun h => absurd (h 8 rfl) (by decide)) ?_
          clear HK_ K
          try simp only [Act.put, List.getElem_toArray, List.getElem_cons_zero, List.getElem_cons_succ, List.setIfInBounds_toArray, List.set_cons_zero, List.set_cons_succ]
          refine wpAnyF_done (by kernel_rfl) ?_ _
          have PTZ := Lib.hid ((show PathsT wU3 (pthF es f k) vs by
            have := MU3.out.paths
            rw [pthF_length, List.take_append_of_le_length (by rw [HVL.out]; exact Nat.le_refl _), List.take_of_length_le (by rw [HVL.out]; exact Nat.le_refl _)] at this
            exact this).snoc (HTD.out) (c := pc) NP3.out |>.map fun _ _ hr => hr.other_type GRF.out (by decide) HFAR.out)
          have O1Z := Lib.hid (own_far MU3.out.one fun g hg => HFAR.out g (by omega))
          have O2Z := Lib.hid (own_far MU3.out.two fun g hg => HFAR.out g (by omega))
          have LVZ := Lib.hid (MU3.out.new.other_type GRF.out (by decide) HFAR.out)
          go_wp2_with fail
          go_roundw
          case rel =>
            refine ⟨q1, k + 1, _, _, vs ++ [.slice pa (tlong i es.length) pc], (f : Int), rfl, Lib.hid (by have := HLT.out; have := HQ1.out; omega), Lib.hid (by have := HKI.out; have := HIT.out; have := HQ1.out; omega), Lib.hid (by rw [if_neg (Nat.succ_ne_zero k)]), GRZ, Lib.hid (by rw [List.length_append, HVL.out]; rfl), Lib.hid ?_, Lib.hid ?_, Lib.hid ?_, LVZ, HSZ, BZ⟩
            · rw [own_one_more HKI.out HLT.out, ← HE.out]; exact O1Z.out
            · have := O2Z.out
              rw [List.length_append, HVL.out] at this
              rw [HVL.out]
              exact this
            · rw [pthF_more es HKI.out]
              have := PTZ.out
              rw [HTL2.out] at this
              exact this
          case measure => simp [intOf]; have := HLT.out; have := HQ1.out; omega
        · have a4 : ((i : Int) == (l1 : Int)) = false := by rw [beq_eq_false_iff_ne]; omega
          have a5 : (i == l1) = false := by rw [beq_eq_false_iff_ne]; omega
          have hq1l : q1 < es.length := by omega
          obtain ⟨b2, o2, hb2, hb2l, hr2⟩ := R2.out.ent HL.out hq1l
          obtain ⟨rfl, rfl⟩ : ba = b2 ∧ oa = o2 := by simpa using hb2
          obtain ⟨xn, hxn⟩ : ∃ x, x = es[q1].key := ⟨_, rfl⟩
          have ckn : wA.cell? ⟨ba, oa + q1 * 33, none⟩ = some (.int .i64 xn) := by
            rw [hxn]
            exact (HBL.out.cell (p := ⟨ba, oa + q1 * 33, none⟩) HBA.out).trans (range_ekey hr2)
          have jq0 : (0 : Int) ≤ (q1 : Int) := by omega
          have jq1 : (q1 : Int) < (es.length : Int) := by omega
          by_cases hnl : lo ≤ xn
          · have a6 : decide (lo ≤ xn) = true := decide_eq_true hnl
            have hif := (hLB.1 ⟨hxl, .inr ⟨by omega, by simp only [← hq1, ← hxn]; exact hnl⟩⟩).2
            obtain ⟨hfi, hit⟩ := hTI.1 (.inr (.inl ⟨hxl, hif⟩))
            have hk0 : k = 0 := by have := HK.out; omega
            clear hxl hil hif hTI hLB hFA hq1 hl1 hnl hr2 hb2 hb2l hq1l hxn
            have HKI := Lib.hid (show i = f + k by have := HK.out; omega)
            have HIT := Lib.hid hit
            have hif : i = f := by have := HK.out; omega
            obtain ⟨ia0, ic0, hv1⟩ := own_slice HO1.out
            have hv10 : v1 = .slice ia0 0 ic0 := by rw [hv1, hk0]
            have cA0 : wA.cell? ⟨RB, 0, none⟩ = some (.int .i64 fr) := (rng_cells HRC.out).1
            have fA0 : wA.frozen? ⟨RB, 0, none⟩ = false := frozen_of_row _ _ _ _ _ HRC.out
            have cA1 : wA.cell? ⟨RB, 1, none⟩ = some (.slice ia0 0 ic0) := by rw [← hv10]; exact (rng_cells HRC.out).2.1
            have HIF := Lib.hid hif
            clear hv1 hv10 hif hfi hit hk0
            go_upto_region 12 with fail
            obtain ⟨wC, hwC⟩ : ∃ z, z = wA.setCell ⟨RB, 0, none⟩ (.int .i64 (i : Int)) := ⟨_, rfl⟩
            rw [← hwC]
            have GRC := Lib.hid (show wC.heap[RB]? = some (.cells #[.int .i64 (f : Int), v1, v2] 61 (0, 0)) by rw [hwC, HIF.out]; exact setCell_row HRC.out _)
            have far0 := Lib.hid (show ∀ g, g ≠ RB → wC.heap[g]? = wA.heap[g]? from fun g hg => by rw [hwC, setCell_far _ (Ne.symm hg)])
            have HO1C := Lib.hid (own_far HO1.out fun g hg => far0.out g (by omega))
            have HO2C := Lib.hid (own_far HO2.out fun g hg => far0.out g (by omega))
            have HPTC := Lib.hid (HPT.out.map fun _ _ hr => hr.other_type HRC.out (by decide) far0.out)
            have HLVC := Lib.hid (HLV.out.other_type HRC.out (by decide) far0.out)
            have HSRC := Lib.hid (show RB < wC.heap.size from lt_of_heap GRC.out)
            have HBLC := Lib.hid (show Below RB w2 wC from HBL.out.trans (by rw [hwC]; exact (Below.refl RB _).setCell (show RB ≤ (⟨RB, 0, none⟩ : Addr).block from Nat.le_refl RB) _))
            clear hwC cA0 fA0 cA1 far0
            have hrC : wC.rangeAt ba (oa + i * 33) (eL E) := fun j v hj => (HBLC.out.cell (p := ⟨ba, oa + i * 33 + j, none⟩) HBA.out).trans (HRE.out j v hj)
            have MDC := Lib.hid (show Made wC (RB + 1) v1 k (cellsE ((es.drop f).take k)) v2 vs (pthF es f k) al ((leavesD es).flatten.map vB) from ⟨HO1C.out, by rw [HVL.out]; exact HO2C.out, by rw [List.take_of_length_le (by rw [pthF_length, HVL.out]; exact Nat.le_refl _)]; exact HPTC.out, HLVC.out, HSRC.out⟩)
            have hbaC : ba < RB + 1 := by have := HBA.out; omega
            have KS := Lib.hid (show ∀ w', Below (RB + 1) wC w' → w'.rangeAt ba (oa + i * 33) (eL E) ∧ w'.cell? ⟨RB, 1, none⟩ = some v1 from fun w' hb => ⟨fun j v hj => (hb.cell (p := ⟨ba, oa + i * 33 + j, none⟩) hbaC).trans (hrC j v hj), (hb.cell (p := ⟨RB, 1, none⟩) (Nat.lt_succ_self _)).trans (rng_cells GRC.out).2.1⟩)
            clear hrC hbaC
            go_wp2_with fail
            refine wp_region_final_drew F9 (fun w' => w'.rangeAt ba (oa + i * 33) (eL E) ∧ w'.cell? ⟨RB, 1, none⟩ = some v1) (by kernel_rfl) (KS.out wC.drew ((Below.refl _ _).drew)) (fun hHeld => ?_)
            obtain ⟨wX0, hwX0⟩ : ∃ z, z = wC.drew := ⟨_, rfl⟩
            have BX0 := Lib.hid (show Below (RB + 1) wC wX0 by rw [hwX0]; exact (Below.refl _ _).drew)
            have MD0 := Lib.hid (MDC.out.map (show Below wC.heap.size wC wX0 by rw [hwX0]; exact (Below.refl _ _).drew))
            rw [← hwX0] at hHeld ⊢
            clear hwX0
            refine wpAnyF_take (fs := [9]) (i := 0) (oi := _) (v := .pointer (some ⟨RB, 1, none⟩)) rfl (by kernel_rfl) (by kernel_rfl) (by kernel_rfl) F9_in rfl (by kernel_rfl) (fun _ _ _ h => h) (Or.inl ⟨by rfl, fun w hw => by go_simp⟩) hHeld ?_
            simp only [Act.put, List.getElem_toArray, List.getElem_cons_zero, List.getElem_cons_succ, List.setIfInBounds_toArray, List.set_cons_zero, List.set_cons_succ]
            refine wpAnyF_take (fs := [9]) (i := 1) (oi := _) (v := v1) rfl (by kernel_rfl) (by kernel_rfl) (by kernel_rfl) F9_in rfl (by kernel_rfl) (fun _ _ _ h => h) (Or.inl ⟨by rfl, fun w hw => by have hc := hw.2; clear hw; go_simp⟩) hHeld ?_
            simp only [Act.put, List.getElem_toArray, List.getElem_cons_zero, List.getElem_cons_succ, List.setIfInBounds_toArray, List.set_cons_zero, List.set_cons_succ]
            refine wpAnyF_take (fs := [9]) (i := 2) (oi := _) (v := .slice (some ⟨ba, oa, none⟩) es.length cap) rfl (by kernel_rfl) (by kernel_rfl) (by kernel_rfl) F9_in rfl (by kernel_rfl) (fun _ _ _ h => h) (Or.inl ⟨by rfl, fun w hw => by go_simp⟩) hHeld ?_
            simp only [Act.put, List.getElem_toArray, List.getElem_cons_zero, List.getElem_cons_succ, List.setIfInBounds_toArray, List.set_cons_zero, List.set_cons_succ]
            refine wpAnyF_take (fs := [9]) (i := 3) (oi := _) (v := .int .i64 (i : Int)) rfl (by kernel_rfl) (by kernel_rfl) (by kernel_rfl) F9_in rfl (by kernel_rfl) (fun _ _ _ h => h) (Or.inl ⟨by rfl, fun w hw => by go_simp⟩) hHeld ?_
            simp only [Act.put, List.getElem_toArray, List.getElem_cons_zero, List.getElem_cons_succ, List.setIfInBounds_toArray, List.set_cons_zero, List.set_cons_succ]
            refine wpAnyF_take (fs := [9]) (i := 4) (oi := _) (v := .pointer (some ⟨ba, oa + i * 33, none⟩)) rfl (by kernel_rfl) (by kernel_rfl) (by kernel_rfl) F9_in rfl (by kernel_rfl) (fun _ _ _ h => h) (Or.inl ⟨by rfl, fun w hw => by go_simp⟩) hHeld ?_
            simp only [Act.put, List.getElem_toArray, List.getElem_cons_zero, List.getElem_cons_succ, List.setIfInBounds_toArray, List.set_cons_zero, List.set_cons_succ]
            refine wpAnyF_take (fs := [9]) (i := 5) (oi := _) (v := .agg (eV E.key E.val)) rfl (by kernel_rfl) (by kernel_rfl) (by kernel_rfl) F9_in rfl (by kernel_rfl) (fun _ _ _ h => h) (yieldsIf_load_mid (by rfl) _ _ rfl _ _ rfl (eL E) _ (fun w hw => hw.1) Tryd.underlying35 rfl hinfoE) hHeld ?_
            simp only [Act.put, List.getElem_toArray, List.getElem_cons_zero, List.getElem_cons_succ, List.setIfInBounds_toArray, List.set_cons_zero, List.set_cons_succ]
            refine wpAnyF_ready (rs := [6]) (by kernel_rfl) (by simp) ?_
            refine AllReadyF.cons (o := _) rfl (fun K hK => ?_) AllReadyF.nil
            have HK_ := Lib.hid hK
            clear hK
            refine stepBuild1 40 35 _ 33 40 Tryd.underlying40 info_entz (by omega) (by omega) rfl (.tmp 88) rfl (eV E.key E.val) (by rfl) (eVs HEW.out) ?_
            obtain ⟨IB, hIB⟩ : ∃ z, z = wX0.heap.size := ⟨_, rfl⟩
            rw [← hIB]
            obtain ⟨wX1, hwX1⟩ : ∃ z, z = wX0.alloc (.cells (eV E.key E.val) 35) := ⟨_, rfl⟩
            rw [← hwX1]
            have bs : Below wX0.heap.size wX0 wX1 := by rw [hwX1]; exact (Below.refl _ _).alloc (Nat.le_refl _) _
            have BX1 := Lib.hid (show Below (RB + 1) wC wX1 from BX0.out.trans (bs.mono MD0.out.size))
            have MD1 := Lib.hid (MD0.out.map bs)
            have GI1 := Lib.hid (show wX1.heap[IB]? = some (.cells (eV E.key E.val) 35 (0, 0)) by rw [hwX1, hIB]; exact heap_alloc_new _ _)
            clear hIB hwX1 bs
            have hS : wX1.rangeAt ba (oa + i * 33) (eL E) ∧ wX1.cell? ⟨RB, 1, none⟩ = some v1 := KS.out _ BX1.out
            clear hHeld
            refine HK_.out _ _ (fun _ => hS) ?_
            clear HK_ K
            try simp only [Act.put, List.getElem_toArray, List.getElem_cons_zero, List.getElem_cons_succ, List.setIfInBounds_toArray, List.set_cons_zero, List.set_cons_succ]
            have hHeld := hS
            clear hS
            refine wpAnyF_ready (rs := [7]) (by kernel_rfl) (by simp) ?_
            refine AllReadyF.cons (o := _) rfl (fun K hK => ?_) AllReadyF.nil
            have HK_ := Lib.hid hK
            clear hK
            refine stepAppN 40 35 _ 33 40 Tryd.underlying40 info_entz (show (eV 0 nz).size = 33 from eV_size _ _ rfl) (by omega) (by omega) rfl (.tmp 84) (.tmp 89) (by rfl) (RB + 1) v1 k (cellsE ((es.drop f).take k)) (by rfl) MD1.out.one IB 1 (eL E) (by rfl) (eL_length HEW.out) (fun j hj => by have := range_ent GI1.out j _ (List.getElem?_eq_getElem hj); rwa [Nat.zero_add] at this) (eL_one _) (by omega) MD1.out.size _ rfl ?_
            intro gI cI wX2 hown hgrow hat hlt3
            have BX2 := Lib.hid (show Below (RB + 1) wC wX2 from below_grow BX1.out MD1.out.one hgrow MD1.out.size)
            have MD2 := Lib.hid (MD1.out.app1 hown hgrow hgrow.size)
            clear hown hgrow hat hlt3
            have hS : wX2.rangeAt ba (oa + i * 33) (eL E) ∧ wX2.cell? ⟨RB, 1, none⟩ = some v1 := KS.out _ BX2.out
            clear hHeld
            refine HK_.out _ _ (fun _ => hS) ?_
            clear HK_ K
            try simp only [Act.put, List.getElem_toArray, List.getElem_cons_zero, List.getElem_cons_succ, List.setIfInBounds_toArray, List.set_cons_zero, List.set_cons_succ]
            have hHeld := hS
            clear hS
            have GRF := Lib.hid ((BX2.out.block RB (Nat.lt_succ_self _)).trans GRC.out)
            have cF1 : wX2.cell? ⟨RB, 1, none⟩ = some v1 := (rng_cells GRF.out).2.1
            have fF1 : wX2.frozen? ⟨RB, 1, none⟩ = false := frozen_of_row _ _ _ _ _ GRF.out
            refine wpAnyF_ready (rs := [8]) (by kernel_rfl) (by simp) ?_
            refine AllReadyF.cons (o := _) rfl (fun K hK => ?_) AllReadyF.nil
            have HK_ := Lib.hid hK
            clear hK
            go_simp
            have hS : wX2.rangeAt ba (oa + i * 33) (eL E) ∧ wX2.cell? ⟨RB, 1, none⟩ = some v1 := KS.out _ BX2.out
            clear hHeld
            refine HK_.out _ _ (fun _ => hS) ?_
            clear HK_ K
            try simp only [Act.put, List.getElem_toArray, List.getElem_cons_zero, List.getElem_cons_succ, List.setIfInBounds_toArray, List.set_cons_zero, List.set_cons_succ]
            have hHeld := hS
            clear hS
            refine wpAnyF_ready (rs := [9]) (by kernel_rfl) (by simp) ?_
            refine AllReadyF.cons (o := _) rfl (fun K hK => ?_) AllReadyF.nil
            have HK_ := Lib.hid hK
            clear hK
            go_simp
            obtain ⟨wY, hwY⟩ : ∃ z, z = wX2.setCell ⟨RB, 1, none⟩ (.slice (some ⟨gI, 0, none⟩) (k + 1) cI) := ⟨_, rfl⟩
            rw [← hwY]
            have GRY := Lib.hid (show wY.heap[RB]? = some (.cells #[.int .i64 (f : Int), .slice (some ⟨gI, 0, none⟩) (k + 1) cI, v2] 61 (0, 0)) by rw [hwY]; exact setCell_row GRF.out _)
            have HFAR := Lib.hid (show ∀ g, g ≠ RB → wY.heap[g]? = wX2.heap[g]? from fun g hg => by rw [hwY, setCell_far _ (Ne.symm hg)])
            have BY := Lib.hid (show Below RB w2 wY from HBLC.out.trans ((BX2.out.mono (Nat.le_succ _)).trans (by rw [hwY]; exact (Below.refl RB _).setCell (show RB ≤ (⟨RB, 1, none⟩ : Addr).block from Nat.le_refl RB) _)))
            have HSY := Lib.hid (show RB < wY.heap.size from lt_of_heap GRY.out)
            clear cF1 fF1 hwY hHeld
            refine HK_.out _ _ (fun h => absurd (h 9 rfl) (by decide)) ?_
            clear HK_ K
            try simp only [Act.put, List.getElem_toArray, List.getElem_cons_zero, List.getElem_cons_succ, List.setIfInBounds_toArray, List.set_cons_zero, List.set_cons_succ]
            refine wpAnyF_done (by kernel_rfl) ?_ _
            have MDY := Lib.hid (show Made wY (RB + 1) (.slice (some ⟨gI, 0, none⟩) (k + 1) cI) (k + 1) (cellsE ((es.drop f).take k) ++ eL E) v2 vs (pthF es f k) al ((leavesD es).flatten.map vB) from ⟨own_far MD2.out.one fun g hg => HFAR.out g (by omega), own_far MD2.out.two fun g hg => HFAR.out g (by omega), MD2.out.paths.map fun _ _ hr => hr.other_type GRF.out (by decide) HFAR.out, MD2.out.new.other_type GRF.out (by decide) HFAR.out, HSY.out⟩)
            clear KS MDC MD0 MD1 MD2 GI1 BX0 BX1 BX2 GRF HFAR HO1C HO2C HPTC HLVC HSRC
            have PC := RPath_calls es.length (leavesD es) i (by rw [leavesD_length]; exact Nat.le_refl _) (by rw [leavesD_length]; omega) (by rw [leavesD_length]; exact HLT.out) (leavesD_dig es) al cl 23 (by rw [leavesD_length]; exact CP.out.1) CP.out.2
            rw [leavesD_length] at PC
            have HPC := Lib.hid PC
            have KS := Lib.hid (show ∀ w', Below (RB + 1) wY w' → w'.cell? ⟨RB, 2, none⟩ = some v2 from fun w' hb => (hb.cell (p := ⟨RB, 2, none⟩) (Nat.lt_succ_self _)).trans (rng_cells GRY.out).2.2)
            clear PC
            go_wp2_with fail
            refine wp_region_final_drew F8 (fun w' => w'.cell? ⟨RB, 2, none⟩ = some v2) (by kernel_rfl) (KS.out wY.drew ((Below.refl _ _).drew)) (fun hHeld => ?_)
            obtain ⟨wU0, hwU0⟩ : ∃ z, z = wY.drew := ⟨_, rfl⟩
            have BU0 := Lib.hid (show Below (RB + 1) wY wU0 by rw [hwU0]; exact (Below.refl _ _).drew)
            have MU0 := Lib.hid (MDY.out.map (show Below wY.heap.size wY wU0 by rw [hwU0]; exact (Below.refl _ _).drew))
            rw [← hwU0] at hHeld ⊢
            clear hwU0
            refine wpAnyF_take (fs := [8]) (i := 0) (oi := _) (v := .pointer (some ⟨RB, 2, none⟩)) rfl (by kernel_rfl) (by kernel_rfl) (by kernel_rfl) F8_in rfl (by kernel_rfl) (fun _ _ _ h => h) (Or.inl ⟨by rfl, fun w hw => by go_simp⟩) hHeld ?_
            simp only [Act.put, List.getElem_toArray, List.getElem_cons_zero, List.getElem_cons_succ, List.setIfInBounds_toArray, List.set_cons_zero, List.set_cons_succ]
            refine wpAnyF_take (fs := [8]) (i := 1) (oi := _) (v := v2) rfl (by kernel_rfl) (by kernel_rfl) (by kernel_rfl) F8_in rfl (by kernel_rfl) (fun _ _ _ h => h) (Or.inl ⟨by rfl, fun w hw => by have hc := hw; clear hw; go_simp⟩) hHeld ?_
            simp only [Act.put, List.getElem_toArray, List.getElem_cons_zero, List.getElem_cons_succ, List.setIfInBounds_toArray, List.set_cons_zero, List.set_cons_succ]
            refine wpAnyF_take (fs := [8]) (i := 2) (oi := _) (v := .slice al es.length cl) rfl (by kernel_rfl) (by kernel_rfl) (by kernel_rfl) F8_in rfl (by kernel_rfl) (fun _ _ _ h => h) (Or.inl ⟨by rfl, fun w hw => by go_simp⟩) hHeld ?_
            simp only [Act.put, List.getElem_toArray, List.getElem_cons_zero, List.getElem_cons_succ, List.setIfInBounds_toArray, List.set_cons_zero, List.set_cons_succ]
            refine wpAnyF_take (fs := [8]) (i := 3) (oi := _) (v := .int .i64 (i : Int)) rfl (by kernel_rfl) (by kernel_rfl) (by kernel_rfl) F8_in rfl (by kernel_rfl) (fun _ _ _ h => h) (Or.inl ⟨by rfl, fun w hw => by go_simp⟩) hHeld ?_
            simp only [Act.put, List.getElem_toArray, List.getElem_cons_zero, List.getElem_cons_succ, List.setIfInBounds_toArray, List.set_cons_zero, List.set_cons_succ]
            refine wpAnyF_ready (rs := [4]) (by kernel_rfl) (by simp) ?_
            refine AllReadyF.cons (o := _) rfl (fun K hK => ?_) AllReadyF.nil
            have HK_ := Lib.hid hK
            clear hK
            go_simp
            go_at_call 40
            refine (HPC.out wU0 MU0.out.new).mono ?_
            rintro e wU1 ⟨pa, pc, rfl, hown, hbU⟩
            dsimp only
            have BU1 := Lib.hid (show Below (RB + 1) wY wU1 from BU0.out.trans (hbU.mono MU0.out.size))
            have MU1 := Lib.hid (MU0.out.map hbU)
            have NP1 := Lib.hid (Rd.of_own hown)
            clear hown hbU HPC
            have hS : wU1.cell? ⟨RB, 2, none⟩ = some v2 := KS.out _ BU1.out
            clear hHeld
            refine HK_.out _ _ (fun _ => hS) ?_
            clear HK_ K
            try simp only [Act.put, List.getElem_toArray, List.getElem_cons_zero, List.getElem_cons_succ, List.setIfInBounds_toArray, List.set_cons_zero, List.set_cons_succ]
            have hHeld := hS
            clear hS
            refine wpAnyF_ready (rs := [5]) (by kernel_rfl) (by simp) ?_
            refine AllReadyF.cons (o := _) rfl (fun K hK => ?_) AllReadyF.nil
            have HK_ := Lib.hid hK
            clear hK
            go_simp
            obtain ⟨PB, hPB⟩ : ∃ z, z = wU1.heap.size := ⟨_, rfl⟩
            rw [← hPB]
            obtain ⟨wU2, hwU2⟩ : ∃ z, z = wU1.alloc (.cells #[.slice pa (tlong i es.length) pc] 24) := ⟨_, rfl⟩
            rw [← hwU2]
            have bs : Below wU1.heap.size wU1 wU2 := by rw [hwU2]; exact (Below.refl _ _).alloc (Nat.le_refl _) _
            have BU2 := Lib.hid (show Below (RB + 1) wY wU2 from BU1.out.trans (bs.mono MU1.out.size))
            have MU2 := Lib.hid (MU1.out.map bs)
            have NP2 := Lib.hid (NP1.out.below bs)
            have GP2 := Lib.hid (show wU2.heap[PB]? = some (.cells #[.slice pa (tlong i es.length) pc] 24 (0, 0)) by rw [hwU2, hPB]; exact heap_alloc_new _ _)
            clear hPB hwU2 bs
            have hS : wU2.cell? ⟨RB, 2, none⟩ = some v2 := KS.out _ BU2.out
            clear hHeld
            refine HK_.out _ _ (fun _ => hS) ?_
            clear HK_ K
            try simp only [Act.put, List.getElem_toArray, List.getElem_cons_zero, List.getElem_cons_succ, List.setIfInBounds_toArray, List.set_cons_zero, List.set_cons_succ]
            have hHeld := hS
            clear hS
            refine wpAnyF_ready (rs := [6]) (by kernel_rfl) (by simp) ?_
            refine AllReadyF.cons (o := _) rfl (fun K hK => ?_) AllReadyF.nil
            have HK_ := Lib.hid hK
            clear hK
            refine stepApp1 59 24 _ 24 Tryd.underlying59 info_dgs rfl (by omega) rfl (.tmp 93) (.tmp 97) (by rfl) (RB + 1) v2 vs.length vs (by rfl) MU2.out.two ⟨PB, 0, none⟩ 1 (.slice pa (tlong i es.length) pc) (by rfl) (by rw [cell_of_row _ _ _ _ _ _ GP2.out]; rfl) rfl (by have := HVL.out; omega) MU2.out.size _ rfl ?_
            intro gP cP wU3 hown hgrow hat hlt3
            have BU3 := Lib.hid (show Below (RB + 1) wY wU3 from below_grow BU2.out MU2.out.two hgrow MU2.out.size)
            have MU3 := Lib.hid (MU2.out.app2 (by rw [pthF_length, HVL.out]; exact Nat.le_refl _) hown hgrow hgrow.size)
            have NP3 := Lib.hid (NP2.out.other_app MU2.out.two hgrow dgs_ne_dig)
            clear hown hgrow hat hlt3
            have hS : wU3.cell? ⟨RB, 2, none⟩ = some v2 := KS.out _ BU3.out
            clear hHeld
            refine HK_.out _ _ (fun _ => hS) ?_
            clear HK_ K
            try simp only [Act.put, List.getElem_toArray, List.getElem_cons_zero, List.getElem_cons_succ, List.setIfInBounds_toArray, List.set_cons_zero, List.set_cons_succ]
            have hHeld := hS
            clear hS
            have GRF := Lib.hid ((BU3.out.block RB (Nat.lt_succ_self _)).trans GRY.out)
            have cF1 : wU3.cell? ⟨RB, 2, none⟩ = some v2 := (rng_cells GRF.out).2.2
            have fF1 : wU3.frozen? ⟨RB, 2, none⟩ = false := frozen_of_row _ _ _ _ _ GRF.out
            refine wpAnyF_ready (rs := [7]) (by kernel_rfl) (by simp) ?_
            refine AllReadyF.cons (o := _) rfl (fun K hK => ?_) AllReadyF.nil
            have HK_ := Lib.hid hK
            clear hK
            go_simp
            have hS : wU3.cell? ⟨RB, 2, none⟩ = some v2 := KS.out _ BU3.out
            clear hHeld
            refine HK_.out _ _ (fun _ => hS) ?_
            clear HK_ K
            try simp only [Act.put, List.getElem_toArray, List.getElem_cons_zero, List.getElem_cons_succ, List.setIfInBounds_toArray, List.set_cons_zero, List.set_cons_succ]
            have hHeld := hS
            clear hS
            refine wpAnyF_ready (rs := [8]) (by kernel_rfl) (by simp) ?_
            refine AllReadyF.cons (o := _) rfl (fun K hK => ?_) AllReadyF.nil
            have HK_ := Lib.hid hK
            clear hK
            go_simp
            obtain ⟨wZ, hwZ⟩ : ∃ z, z = wU3.setCell ⟨RB, 2, none⟩ (.slice (some ⟨gP, 0, none⟩) (vs.length + 1) cP) := ⟨_, rfl⟩
            rw [← hwZ]
            have GRZ := Lib.hid (show wZ.heap[RB]? = some (.cells #[.int .i64 (f : Int), .slice (some ⟨gI, 0, none⟩) (k + 1) cI, .slice (some ⟨gP, 0, none⟩) (vs.length + 1) cP] 61 (0, 0)) by rw [hwZ]; exact setCell_row GRF.out _)
            have HFAR := Lib.hid (show ∀ g, g ≠ RB → wZ.heap[g]? = wU3.heap[g]? from fun g hg => by rw [hwZ, setCell_far _ (Ne.symm hg)])
            have BZ := Lib.hid (show Below RB w2 wZ from BY.out.trans ((BU3.out.mono (Nat.le_succ _)).trans (by rw [hwZ]; exact (Below.refl RB _).setCell (show RB ≤ (⟨RB, 2, none⟩ : Addr).block from Nat.le_refl RB) _)))
            have HSZ := Lib.hid (show RB < wZ.heap.size from lt_of_heap GRZ.out)
            clear cF1 fF1 hwZ hHeld
            refine HK_.out _ _ (fun h => absurd (h 8 rfl) (by decide)) ?_
            clear HK_ K
            try simp only [Act.put, List.getElem_toArray, List.getElem_cons_zero, List.getElem_cons_succ, List.setIfInBounds_toArray, List.set_cons_zero, List.set_cons_succ]
            refine wpAnyF_done (by kernel_rfl) ?_ _
            have PTZ := Lib.hid ((show PathsT wU3 (pthF es f k) vs by
              have := MU3.out.paths
              rw [pthF_length, List.take_append_of_le_length (by rw [HVL.out]; exact Nat.le_refl _), List.take_of_length_le (by rw [HVL.out]; exact Nat.le_refl _)] at this
              exact this).snoc (HTD.out) (c := pc) NP3.out |>.map fun _ _ hr => hr.other_type GRF.out (by decide) HFAR.out)
            have O1Z := Lib.hid (own_far MU3.out.one fun g hg => HFAR.out g (by omega))
            have O2Z := Lib.hid (own_far MU3.out.two fun g hg => HFAR.out g (by omega))
            have LVZ := Lib.hid (MU3.out.new.other_type GRF.out (by decide) HFAR.out)
            go_wp2_with fail
            go_roundw
            case rel =>
              refine ⟨q1, k + 1, _, _, vs ++ [.slice pa (tlong i es.length) pc], (f : Int), rfl, Lib.hid (by have := HLT.out; have := HQ1.out; omega), Lib.hid (by have := HKI.out; have := HIT.out; have := HQ1.out; omega), Lib.hid (by rw [if_neg (Nat.succ_ne_zero k)]), GRZ, Lib.hid (by rw [List.length_append, HVL.out]; rfl), Lib.hid ?_, Lib.hid ?_, Lib.hid ?_, LVZ, HSZ, BZ⟩
              · rw [own_one_more HKI.out HLT.out, ← HE.out]; exact O1Z.out
              · have := O2Z.out
                rw [List.length_append, HVL.out] at this
                rw [HVL.out]
                exact this
              · rw [pthF_more es HKI.out]
                have := PTZ.out
                rw [HTL2.out] at this
                exact this
            case measure => simp [intOf]; have := HLT.out; have := HQ1.out; omega
          · have a6 : decide (lo ≤ xn) = false := decide_eq_false hnl
            have hnt : ¬ (f ≤ i ∧ i < t) := fun h => by
              rcases hTI.2 h with h1 | h1 | h1
              · omega
              · rcases (hLB.2 h1).2 with h2 | ⟨h2, h3⟩
                · omega
                · simp only [← hq1, ← hxn] at h3; omega
              · have := HAB.out; omega
            clear hxl hil hTI hLB hFA hq1 hl1 hnl hr2 hb2 hb2l hq1l hxn
            have HK2 := Lib.hid (show k = min q1 t - f by have := HK.out; have := HQ1.out; omega)
            clear hnt
            go_wp2_with fail
            go_roundw
            case rel => exact ⟨q1, k, v1, v2, vs, fr, rfl, Lib.hid (by have := HLT.out; have := HQ1.out; omega), HK2, HFRV, HRC, HVL, HO1, HO2, HPT, HLV, HSR, HBL⟩
            case measure => simp [intOf]; have := HLT.out; have := HQ1.out; omega
      · have a1 : decide (x < lo) = false := decide_eq_false hxl
        have a2 : decide (lo ≤ x) = true := decide_eq_true (by omega)
        by_cases hxh : hi < x
        · have a3 : decide (hi < x) = true := decide_eq_true hxh
          have a3b : decide (x ≤ hi) = false := decide_eq_false (by omega)
          by_cases hi0 : i = 0
          · have a4 : ((i : Int) == 0) = true := by rw [beq_iff_eq]; omega
            have hit1 := (hFA.1 ⟨hxh, .inl hi0⟩).2
            obtain ⟨hfi, hit⟩ := hTI.1 (.inr (.inr ⟨hxh, hit1⟩))
            have hk0 : k = 0 := by have := HK.out; omega
            have a5 : (i == 0) = true := by rw [beq_iff_eq]; exact hi0
            clear hxl hxh hit1 hTI hLB hFA hq1 hl1 hi0
            have HKI := Lib.hid (show i = f + k by have := HK.out; omega)
            have HIT := Lib.hid hit
            have hif : i = f := by have := HK.out; omega
            obtain ⟨ia0, ic0, hv1⟩ := own_slice HO1.out
            have hv10 : v1 = .slice ia0 0 ic0 := by rw [hv1, hk0]
            have cA0 : wA.cell? ⟨RB, 0, none⟩ = some (.int .i64 fr) := (rng_cells HRC.out).1
            have fA0 : wA.frozen? ⟨RB, 0, none⟩ = false := frozen_of_row _ _ _ _ _ HRC.out
            have cA1 : wA.cell? ⟨RB, 1, none⟩ = some (.slice ia0 0 ic0) := by rw [← hv10]; exact (rng_cells HRC.out).2.1
            have HIF := Lib.hid hif
            clear hv1 hv10 hif hfi hit hk0
            go_upto_region 12 with fail
            obtain ⟨wC, hwC⟩ : ∃ z, z = wA.setCell ⟨RB, 0, none⟩ (.int .i64 (i : Int)) := ⟨_, rfl⟩
            rw [← hwC]
            have GRC := Lib.hid (show wC.heap[RB]? = some (.cells #[.int .i64 (f : Int), v1, v2] 61 (0, 0)) by rw [hwC, HIF.out]; exact setCell_row HRC.out _)
            have far0 := Lib.hid (show ∀ g, g ≠ RB → wC.heap[g]? = wA.heap[g]? from fun g hg => by rw [hwC, setCell_far _ (Ne.symm hg)])
            have HO1C := Lib.hid (own_far HO1.out fun g hg => far0.out g (by omega))
            have HO2C := Lib.hid (own_far HO2.out fun g hg => far0.out g (by omega))
            have HPTC := Lib.hid (HPT.out.map fun _ _ hr => hr.other_type HRC.out (by decide) far0.out)
            have HLVC := Lib.hid (HLV.out.other_type HRC.out (by decide) far0.out)
            have HSRC := Lib.hid (show RB < wC.heap.size from lt_of_heap GRC.out)
            have HBLC := Lib.hid (show Below RB w2 wC from HBL.out.trans (by rw [hwC]; exact (Below.refl RB _).setCell (show RB ≤ (⟨RB, 0, none⟩ : Addr).block from Nat.le_refl RB) _))
            clear hwC cA0 fA0 cA1 far0
            have hrC : wC.rangeAt ba (oa + i * 33) (eL E) := fun j v hj => (HBLC.out.cell (p := ⟨ba, oa + i * 33 + j, none⟩) HBA.out).trans (HRE.out j v hj)
            have MDC := Lib.hid (show Made wC (RB + 1) v1 k (cellsE ((es.drop f).take k)) v2 vs (pthF es f k) al ((leavesD es).flatten.map vB) from ⟨HO1C.out, by rw [HVL.out]; exact HO2C.out, by rw [List.take_of_length_le (by rw [pthF_length, HVL.out]; exact Nat.le_refl _)]; exact HPTC.out, HLVC.out, HSRC.out⟩)
            have hbaC : ba < RB + 1 := by have := HBA.out; omega
            have KS := Lib.hid (show ∀ w', Below (RB + 1) wC w' → w'.rangeAt ba (oa + i * 33) (eL E) ∧ w'.cell? ⟨RB, 1, none⟩ = some v1 from fun w' hb => ⟨fun j v hj => (hb.cell (p := ⟨ba, oa + i * 33 + j, none⟩) hbaC).trans (hrC j v hj), (hb.cell (p := ⟨RB, 1, none⟩) (Nat.lt_succ_self _)).trans (rng_cells GRC.out).2.1⟩)
            clear hrC hbaC
            go_wp2_with fail
            refine wp_region_final_drew F9 (fun w' => w'.rangeAt ba (oa + i * 33) (eL E) ∧ w'.cell? ⟨RB, 1, none⟩ = some v1) (by kernel_rfl) (KS.out wC.drew ((Below.refl _ _).drew)) (fun hHeld => ?_)
            obtain ⟨wX0, hwX0⟩ : ∃ z, z = wC.drew := ⟨_, rfl⟩
            have BX0 := Lib.hid (show Below (RB + 1) wC wX0 by rw [hwX0]; exact (Below.refl _ _).drew)
            have MD0 := Lib.hid (MDC.out.map (show Below wC.heap.size wC wX0 by rw [hwX0]; exact (Below.refl _ _).drew))
            rw [← hwX0] at hHeld ⊢
            clear hwX0
            refine wpAnyF_take (fs := [9]) (i := 0) (oi := _) (v := .pointer (some ⟨RB, 1, none⟩)) rfl (by kernel_rfl) (by kernel_rfl) (by kernel_rfl) F9_in rfl (by kernel_rfl) (fun _ _ _ h => h) (Or.inl ⟨by rfl, fun w hw => by go_simp⟩) hHeld ?_
            simp only [Act.put, List.getElem_toArray, List.getElem_cons_zero, List.getElem_cons_succ, List.setIfInBounds_toArray, List.set_cons_zero, List.set_cons_succ]
            refine wpAnyF_take (fs := [9]) (i := 1) (oi := _) (v := v1) rfl (by kernel_rfl) (by kernel_rfl) (by kernel_rfl) F9_in rfl (by kernel_rfl) (fun _ _ _ h => h) (Or.inl ⟨by rfl, fun w hw => by have hc := hw.2; clear hw; go_simp⟩) hHeld ?_
            simp only [Act.put, List.getElem_toArray, List.getElem_cons_zero, List.getElem_cons_succ, List.setIfInBounds_toArray, List.set_cons_zero, List.set_cons_succ]
            refine wpAnyF_take (fs := [9]) (i := 2) (oi := _) (v := .slice (some ⟨ba, oa, none⟩) es.length cap) rfl (by kernel_rfl) (by kernel_rfl) (by kernel_rfl) F9_in rfl (by kernel_rfl) (fun _ _ _ h => h) (Or.inl ⟨by rfl, fun w hw => by go_simp⟩) hHeld ?_
            simp only [Act.put, List.getElem_toArray, List.getElem_cons_zero, List.getElem_cons_succ, List.setIfInBounds_toArray, List.set_cons_zero, List.set_cons_succ]
            refine wpAnyF_take (fs := [9]) (i := 3) (oi := _) (v := .int .i64 (i : Int)) rfl (by kernel_rfl) (by kernel_rfl) (by kernel_rfl) F9_in rfl (by kernel_rfl) (fun _ _ _ h => h) (Or.inl ⟨by rfl, fun w hw => by go_simp⟩) hHeld ?_
            simp only [Act.put, List.getElem_toArray, List.getElem_cons_zero, List.getElem_cons_succ, List.setIfInBounds_toArray, List.set_cons_zero, List.set_cons_succ]
            refine wpAnyF_take (fs := [9]) (i := 4) (oi := _) (v := .pointer (some ⟨ba, oa + i * 33, none⟩)) rfl (by kernel_rfl) (by kernel_rfl) (by kernel_rfl) F9_in rfl (by kernel_rfl) (fun _ _ _ h => h) (Or.inl ⟨by rfl, fun w hw => by go_simp⟩) hHeld ?_
            simp only [Act.put, List.getElem_toArray, List.getElem_cons_zero, List.getElem_cons_succ, List.setIfInBounds_toArray, List.set_cons_zero, List.set_cons_succ]
            refine wpAnyF_take (fs := [9]) (i := 5) (oi := _) (v := .agg (eV E.key E.val)) rfl (by kernel_rfl) (by kernel_rfl) (by kernel_rfl) F9_in rfl (by kernel_rfl) (fun _ _ _ h => h) (yieldsIf_load_mid (by rfl) _ _ rfl _ _ rfl (eL E) _ (fun w hw => hw.1) Tryd.underlying35 rfl hinfoE) hHeld ?_
            simp only [Act.put, List.getElem_toArray, List.getElem_cons_zero, List.getElem_cons_succ, List.setIfInBounds_toArray, List.set_cons_zero, List.set_cons_succ]
            refine wpAnyF_ready (rs := [6]) (by kernel_rfl) (by simp) ?_
            refine AllReadyF.cons (o := _) rfl (fun K hK => ?_) AllReadyF.nil
            have HK_ := Lib.hid hK
            clear hK
            refine stepBuild1 40 35 _ 33 40 Tryd.underlying40 info_entz (by omega) (by omega) rfl (.tmp 88) rfl (eV E.key E.val) (by rfl) (eVs HEW.out) ?_
            obtain ⟨IB, hIB⟩ : ∃ z, z = wX0.heap.size := ⟨_, rfl⟩
            rw [← hIB]
            obtain ⟨wX1, hwX1⟩ : ∃ z, z = wX0.alloc (.cells (eV E.key E.val) 35) := ⟨_, rfl⟩
            rw [← hwX1]
            have bs : Below wX0.heap.size wX0 wX1 := by rw [hwX1]; exact (Below.refl _ _).alloc (Nat.le_refl _) _
            have BX1 := Lib.hid (show Below (RB + 1) wC wX1 from BX0.out.trans (bs.mono MD0.out.size))
            have MD1 := Lib.hid (MD0.out.map bs)
            have GI1 := Lib.hid (show wX1.heap[IB]? = some (.cells (eV E.key E.val) 35 (0, 0)) by rw [hwX1, hIB]; exact heap_alloc_new _ _)
            clear hIB hwX1 bs
            have hS : wX1.rangeAt ba (oa + i * 33) (eL E) ∧ wX1.cell? ⟨RB, 1, none⟩ = some v1 := KS.out _ BX1.out
            clear hHeld
            refine HK_.out _ _ (fun _ => hS) ?_
            clear HK_ K
            try simp only [Act.put, List.getElem_toArray, List.getElem_cons_zero, List.getElem_cons_succ, List.setIfInBounds_toArray, List.set_cons_zero, List.set_cons_succ]
            have hHeld := hS
            clear hS
            refine wpAnyF_ready (rs := [7]) (by kernel_rfl) (by simp) ?_
            refine AllReadyF.cons (o := _) rfl (fun K hK => ?_) AllReadyF.nil
            have HK_ := Lib.hid hK
            clear hK
            refine stepAppN 40 35 _ 33 40 Tryd.underlying40 info_entz (show (eV 0 nz).size = 33 from eV_size _ _ rfl) (by omega) (by omega) rfl (.tmp 84) (.tmp 89) (by rfl) (RB + 1) v1 k (cellsE ((es.drop f).take k)) (by rfl) MD1.out.one IB 1 (eL E) (by rfl) (eL_length HEW.out) (fun j hj => by have := range_ent GI1.out j _ (List.getElem?_eq_getElem hj); rwa [Nat.zero_add] at this) (eL_one _) (by omega) MD1.out.size _ rfl ?_
            intro gI cI wX2 hown hgrow hat hlt3
            have BX2 := Lib.hid (show Below (RB + 1) wC wX2 from below_grow BX1.out MD1.out.one hgrow MD1.out.size)
            have MD2 := Lib.hid (MD1.out.app1 hown hgrow hgrow.size)
            clear hown hgrow hat hlt3
            have hS : wX2.rangeAt ba (oa + i * 33) (eL E) ∧ wX2.cell? ⟨RB, 1, none⟩ = some v1 := KS.out _ BX2.out
            clear hHeld
            refine HK_.out _ _ (fun _ => hS) ?_
            clear HK_ K
            try simp only [Act.put, List.getElem_toArray, List.getElem_cons_zero, List.getElem_cons_succ, List.setIfInBounds_toArray, List.set_cons_zero, List.set_cons_succ]
            have hHeld := hS
            clear hS
            have GRF := Lib.hid ((BX2.out.block RB (Nat.lt_succ_self _)).trans GRC.out)
            have cF1 : wX2.cell? ⟨RB, 1, none⟩ = some v1 := (rng_cells GRF.out).2.1
            have fF1 : wX2.frozen? ⟨RB, 1, none⟩ = false := frozen_of_row _ _ _ _ _ GRF.out
            refine wpAnyF_ready (rs := [8]) (by kernel_rfl) (by simp) ?_
            refine AllReadyF.cons (o := _) rfl (fun K hK => ?_) AllReadyF.nil
            have HK_ := Lib.hid hK
            clear hK
            go_simp
            have hS : wX2.rangeAt ba (oa + i * 33) (eL E) ∧ wX2.cell? ⟨RB, 1, none⟩ = some v1 := KS.out _ BX2.out
            clear hHeld
            refine HK_.out _ _ (fun _ => hS) ?_
            clear HK_ K
            try simp only [Act.put, List.getElem_toArray, List.getElem_cons_zero, List.getElem_cons_succ, List.setIfInBounds_toArray, List.set_cons_zero, List.set_cons_succ]
            have hHeld := hS
            clear hS
            refine wpAnyF_ready (rs := [9]) (by kernel_rfl) (by simp) ?_
            refine AllReadyF.cons (o := _) rfl (fun K hK => ?_) AllReadyF.nil
            have HK_ := Lib.hid hK
            clear hK
            go_simp
            obtain ⟨wY, hwY⟩ : ∃ z, z = wX2.setCell ⟨RB, 1, none⟩ (.slice (some ⟨gI, 0, none⟩) (k + 1) cI) := ⟨_, rfl⟩
            rw [← hwY]
            have GRY := Lib.hid (show wY.heap[RB]? = some (.cells #[.int .i64 (f : Int), .slice (some ⟨gI, 0, none⟩) (k + 1) cI, v2] 61 (0, 0)) by rw [hwY]; exact setCell_row GRF.out _)
            have HFAR := Lib.hid (show ∀ g, g ≠ RB → wY.heap[g]? = wX2.heap[g]? from fun g hg => by rw [hwY, setCell_far _ (Ne.symm hg)])
            have BY := Lib.hid (show Below RB w2 wY from HBLC.out.trans ((BX2.out.mono (Nat.le_succ _)).trans (by rw [hwY]; exact (Below.refl RB _).setCell (show RB ≤ (⟨RB, 1, none⟩ : Addr).block from Nat.le_refl RB) _)))
            have HSY := Lib.hid (show RB < wY.heap.size from lt_of_heap GRY.out)
            clear cF1 fF1 hwY hHeld
            refine HK_.out _ _ (fun h => absurd (h 9 rfl) (by decide)) ?_
            clear HK_ K
            try simp only [Act.put, List.getElem_toArray, List.getElem_cons_zero, List.getElem_cons_succ, List.setIfInBounds_toArray, List.set_cons_zero, List.set_cons_succ]
            refine wpAnyF_done (by kernel_rfl) ?_ _
            have MDY := Lib.hid (show Made wY (RB + 1) (.slice (some ⟨gI, 0, none⟩) (k + 1) cI) (k + 1) (cellsE ((es.drop f).take k) ++ eL E) v2 vs (pthF es f k) al ((leavesD es).flatten.map vB) from ⟨own_far MD2.out.one fun g hg => HFAR.out g (by omega), own_far MD2.out.two fun g hg => HFAR.out g (by omega), MD2.out.paths.map fun _ _ hr => hr.other_type GRF.out (by decide) HFAR.out, MD2.out.new.other_type GRF.out (by decide) HFAR.out, HSY.out⟩)
            clear KS MDC MD0 MD1 MD2 GI1 BX0 BX1 BX2 GRF HFAR HO1C HO2C HPTC HLVC HSRC
            have PC := RPath_calls es.length (leavesD es) i (by rw [leavesD_length]; exact Nat.le_refl _) (by rw [leavesD_length]; omega) (by rw [leavesD_length]; exact HLT.out) (leavesD_dig es) al cl 23 (by rw [leavesD_length]; exact CP.out.1) CP.out.2
            rw [leavesD_length] at PC
            have HPC := Lib.hid PC
            have KS := Lib.hid (show ∀ w', Below (RB + 1) wY w' → w'.cell? ⟨RB, 2, none⟩ = some v2 from fun w' hb => (hb.cell (p := ⟨RB, 2, none⟩) (Nat.lt_succ_self _)).trans (rng_cells GRY.out).2.2)
            clear PC
            go_wp2_with fail
            refine wp_region_final_drew F8 (fun w' => w'.cell? ⟨RB, 2, none⟩ = some v2) (by kernel_rfl) (KS.out wY.drew ((Below.refl _ _).drew)) (fun hHeld => ?_)
            obtain ⟨wU0, hwU0⟩ : ∃ z, z = wY.drew := ⟨_, rfl⟩
            have BU0 := Lib.hid (show Below (RB + 1) wY wU0 by rw [hwU0]; exact (Below.refl _ _).drew)
            have MU0 := Lib.hid (MDY.out.map (show Below wY.heap.size wY wU0 by rw [hwU0]; exact (Below.refl _ _).drew))
            rw [← hwU0] at hHeld ⊢
            clear hwU0
            refine wpAnyF_take (fs := [8]) (i := 0) (oi := _) (v := .pointer (some ⟨RB, 2, none⟩)) rfl (by kernel_rfl) (by kernel_rfl) (by kernel_rfl) F8_in rfl (by kernel_rfl) (fun _ _ _ h => h) (Or.inl ⟨by rfl, fun w hw => by go_simp⟩) hHeld ?_
            simp only [Act.put, List.getElem_toArray, List.getElem_cons_zero, List.getElem_cons_succ, List.setIfInBounds_toArray, List.set_cons_zero, List.set_cons_succ]
            refine wpAnyF_take (fs := [8]) (i := 1) (oi := _) (v := v2) rfl (by kernel_rfl) (by kernel_rfl) (by kernel_rfl) F8_in rfl (by kernel_rfl) (fun _ _ _ h => h) (Or.inl ⟨by rfl, fun w hw => by have hc := hw; clear hw; go_simp⟩) hHeld ?_
            simp only [Act.put, List.getElem_toArray, List.getElem_cons_zero, List.getElem_cons_succ, List.setIfInBounds_toArray, List.set_cons_zero, List.set_cons_succ]
            refine wpAnyF_take (fs := [8]) (i := 2) (oi := _) (v := .slice al es.length cl) rfl (by kernel_rfl) (by kernel_rfl) (by kernel_rfl) F8_in rfl (by kernel_rfl) (fun _ _ _ h => h) (Or.inl ⟨by rfl, fun w hw => by go_simp⟩) hHeld ?_
            simp only [Act.put, List.getElem_toArray, List.getElem_cons_zero, List.getElem_cons_succ, List.setIfInBounds_toArray, List.set_cons_zero, List.set_cons_succ]
            refine wpAnyF_take (fs := [8]) (i := 3) (oi := _) (v := .int .i64 (i : Int)) rfl (by kernel_rfl) (by kernel_rfl) (by kernel_rfl) F8_in rfl (by kernel_rfl) (fun _ _ _ h => h) (Or.inl ⟨by rfl, fun w hw => by go_simp⟩) hHeld ?_
            simp only [Act.put, List.getElem_toArray, List.getElem_cons_zero, List.getElem_cons_succ, List.setIfInBounds_toArray, List.set_cons_zero, List.set_cons_succ]
            refine wpAnyF_ready (rs := [4]) (by kernel_rfl) (by simp) ?_
            refine AllReadyF.cons (o := _) rfl (fun K hK => ?_) AllReadyF.nil
            have HK_ := Lib.hid hK
            clear hK
            go_simp
            go_at_call 40
            refine (HPC.out wU0 MU0.out.new).mono ?_
            rintro e wU1 ⟨pa, pc, rfl, hown, hbU⟩
            dsimp only
            have BU1 := Lib.hid (show Below (RB + 1) wY wU1 from BU0.out.trans (hbU.mono MU0.out.size))
            have MU1 := Lib.hid (MU0.out.map hbU)
            have NP1 := Lib.hid (Rd.of_own hown)
            clear hown hbU HPC
            have hS : wU1.cell? ⟨RB, 2, none⟩ = some v2 := KS.out _ BU1.out
            clear hHeld
            refine HK_.out _ _ (fun _ => hS) ?_
            clear HK_ K
            try simp only [Act.put, List.getElem_toArray, List.getElem_cons_zero, List.getElem_cons_succ, List.setIfInBounds_toArray, List.set_cons_zero, List.set_cons_succ]
            have hHeld := hS
            clear hS
            refine wpAnyF_ready (rs := [5]) (by kernel_rfl) (by simp) ?_
            refine AllReadyF.cons (o := _) rfl (fun K hK => ?_) AllReadyF.nil
            have HK_ := Lib.hid hK
            clear hK
            go_simp
            obtain ⟨PB, hPB⟩ : ∃ z, z = wU1.heap.size := ⟨_, rfl⟩
            rw [← hPB]
            obtain ⟨wU2, hwU2⟩ : ∃ z, z = wU1.alloc (.cells #[.slice pa (tlong i es.length) pc] 24) := ⟨_, rfl⟩
            rw [← hwU2]
            have bs : Below wU1.heap.size wU1 wU2 := by rw [hwU2]; exact (Below.refl _ _).alloc (Nat.le_refl _) _
            have BU2 := Lib.hid (show Below (RB + 1) wY wU2 from BU1.out.trans (bs.mono MU1.out.size))
            have MU2 := Lib.hid (MU1.out.map bs)
            have NP2 := Lib.hid (NP1.out.below bs)
            have GP2 := Lib.hid (show wU2.heap[PB]? = some (.cells #[.slice pa (tlong i es.length) pc] 24 (0, 0)) by rw [hwU2, hPB]; exact heap_alloc_new _ _)
            clear hPB hwU2 bs
            have hS : wU2.cell? ⟨RB, 2, none⟩ = some v2 := KS.out _ BU2.out
            clear hHeld
            refine HK_.out _ _ (fun _ => hS) ?_
            clear HK_ K
            try simp only [Act.put, List.getElem_toArray, List.getElem_cons_zero, List.getElem_cons_succ, List.setIfInBounds_toArray, List.set_cons_zero, List.set_cons_succ]
            have hHeld := hS
            clear hS
            refine wpAnyF_ready (rs := [6]) (by kernel_rfl) (by simp) ?_
            refine AllReadyF.cons (o := _) rfl (fun K hK => ?_) AllReadyF.nil
            have HK_ := Lib.hid hK
            clear hK
            refine stepApp1 59 24 _ 24 Tryd.underlying59 info_dgs rfl (by omega) rfl (.tmp 93) (.tmp 97) (by rfl) (RB + 1) v2 vs.length vs (by rfl) MU2.out.two ⟨PB, 0, none⟩ 1 (.slice pa (tlong i es.length) pc) (by rfl) (by rw [cell_of_row _ _ _ _ _ _ GP2.out]; rfl) rfl (by have := HVL.out; omega) MU2.out.size _ rfl ?_
            intro gP cP wU3 hown hgrow hat hlt3
            have BU3 := Lib.hid (show Below (RB + 1) wY wU3 from below_grow BU2.out MU2.out.two hgrow MU2.out.size)
            have MU3 := Lib.hid (MU2.out.app2 (by rw [pthF_length, HVL.out]; exact Nat.le_refl _) hown hgrow hgrow.size)
            have NP3 := Lib.hid (NP2.out.other_app MU2.out.two hgrow dgs_ne_dig)
            clear hown hgrow hat hlt3
            have hS : wU3.cell? ⟨RB, 2, none⟩ = some v2 := KS.out _ BU3.out
            clear hHeld
            refine HK_.out _ _ (fun _ => hS) ?_
            clear HK_ K
            try simp only [Act.put, List.getElem_toArray, List.getElem_cons_zero, List.getElem_cons_succ, List.setIfInBounds_toArray, List.set_cons_zero, List.set_cons_succ]
            have hHeld := hS
            clear hS
            have GRF := Lib.hid ((BU3.out.block RB (Nat.lt_succ_self _)).trans GRY.out)
            have cF1 : wU3.cell? ⟨RB, 2, none⟩ = some v2 := (rng_cells GRF.out).2.2
            have fF1 : wU3.frozen? ⟨RB, 2, none⟩ = false := frozen_of_row _ _ _ _ _ GRF.out
            refine wpAnyF_ready (rs := [7]) (by kernel_rfl) (by simp) ?_
            refine AllReadyF.cons (o := _) rfl (fun K hK => ?_) AllReadyF.nil
            have HK_ := Lib.hid hK
            clear hK
            go_simp
            have hS : wU3.cell? ⟨RB, 2, none⟩ = some v2 := KS.out _ BU3.out
            clear hHeld
            refine HK_.out _ _ (fun _ => hS) ?_
            clear HK_ K
            try simp only [Act.put, List.getElem_toArray, List.getElem_cons_zero, List.getElem_cons_succ, List.setIfInBounds_toArray, List.set_cons_zero, List.set_cons_succ]
            have hHeld := hS
            clear hS
            refine wpAnyF_ready (rs := [8]) (by kernel_rfl) (by simp) ?_
            refine AllReadyF.cons (o := _) rfl (fun K hK => ?_) AllReadyF.nil
            have HK_ := Lib.hid hK
            clear hK
            go_simp
            obtain ⟨wZ, hwZ⟩ : ∃ z, z = wU3.setCell ⟨RB, 2, none⟩ (.slice (some ⟨gP, 0, none⟩) (vs.length + 1) cP) := ⟨_, rfl⟩
            rw [← hwZ]
            have GRZ := Lib.hid (show wZ.heap[RB]? = some (.cells #[.int .i64 (f : Int), .slice (some ⟨gI, 0, none⟩) (k + 1) cI, .slice (some ⟨gP, 0, none⟩) (vs.length + 1) cP] 61 (0, 0)) by rw [hwZ]; exact setCell_row GRF.out _)
            have HFAR := Lib.hid (show ∀ g, g ≠ RB → wZ.heap[g]? = wU3.heap[g]? from fun g hg => by rw [hwZ, setCell_far _ (Ne.symm hg)])
            have BZ := Lib.hid (show Below RB w2 wZ from BY.out.trans ((BU3.out.mono (Nat.le_succ _)).trans (by rw [hwZ]; exact (Below.refl RB _).setCell (show RB ≤ (⟨RB, 2, none⟩ : Addr).block from Nat.le_refl RB) _)))
            have HSZ := Lib.hid (show RB < wZ.heap.size from lt_of_heap GRZ.out)
            clear cF1 fF1 hwZ hHeld
            refine HK_.out _ _ (fun h => absurd (h 8 rfl) (by decide)) ?_
            clear HK_ K
            try simp only [Act.put, List.getElem_toArray, List.getElem_cons_zero, List.getElem_cons_succ, List.setIfInBounds_toArray, List.set_cons_zero, List.set_cons_succ]
            refine wpAnyF_done (by kernel_rfl) ?_ _
            have PTZ := Lib.hid ((show PathsT wU3 (pthF es f k) vs by
              have := MU3.out.paths
              rw [pthF_length, List.take_append_of_le_length (by rw [HVL.out]; exact Nat.le_refl _), List.take_of_length_le (by rw [HVL.out]; exact Nat.le_refl _)] at this
              exact this).snoc (HTD.out) (c := pc) NP3.out |>.map fun _ _ hr => hr.other_type GRF.out (by decide) HFAR.out)
            have O1Z := Lib.hid (own_far MU3.out.one fun g hg => HFAR.out g (by omega))
            have O2Z := Lib.hid (own_far MU3.out.two fun g hg => HFAR.out g (by omega))
            have LVZ := Lib.hid (MU3.out.new.other_type GRF.out (by decide) HFAR.out)
            go_wp2_with fail
            go_roundw
            case rel =>
              refine ⟨q1, k + 1, _, _, vs ++ [.slice pa (tlong i es.length) pc], (f : Int), rfl, Lib.hid (by have := HLT.out; have := HQ1.out; omega), Lib.hid (by have := HKI.out; have := HIT.out; have := HQ1.out; omega), Lib.hid (by rw [if_neg (Nat.succ_ne_zero k)]), GRZ, Lib.hid (by rw [List.length_append, HVL.out]; rfl), Lib.hid ?_, Lib.hid ?_, Lib.hid ?_, LVZ, HSZ, BZ⟩
              · rw [own_one_more HKI.out HLT.out, ← HE.out]; exact O1Z.out
              · have := O2Z.out
                rw [List.length_append, HVL.out] at this
                rw [HVL.out]
                exact this
              · rw [pthF_more es HKI.out]
                have := PTZ.out
                rw [HTL2.out] at this
                exact this
            case measure => simp [intOf]; have := HLT.out; have := HQ1.out; omega
          · have a4 : ((i : Int) == 0) = false := by rw [beq_eq_false_iff_ne]; omega
            have a5 : (i == 0) = false := by rw [beq_eq_false_iff_ne]; exact hi0
            obtain ⟨p1, hp1⟩ : ∃ q, q = i - 1 := ⟨_, rfl⟩
            have e7 : IntKind.i64.wrap ((i : Int) - 1) = (p1 : Int) := by rw [IntWalk.i64_in _ (by omega)]; omega
            have hp1l : p1 < es.length := by omega
            obtain ⟨b2, o2, hb2, hb2l, hr2⟩ := R2.out.ent HL.out hp1l
            obtain ⟨rfl, rfl⟩ : ba = b2 ∧ oa = o2 := by simpa using hb2
            obtain ⟨xn, hxn⟩ : ∃ x, x = es[p1].key := ⟨_, rfl⟩
            have ckn : wA.cell? ⟨ba, oa + p1 * 33, none⟩ = some (.int .i64 xn) := by
              rw [hxn]
              exact (HBL.out.cell (p := ⟨ba, oa + p1 * 33, none⟩) HBA.out).trans (range_ekey hr2)
            have jq0 : (0 : Int) ≤ (p1 : Int) := by omega
            have jq1 : (p1 : Int) < (es.length : Int) := by omega
            by_cases hnl : xn ≤ hi
            · have a6 : decide (xn ≤ hi) = true := decide_eq_true hnl
              have hit1 := (hFA.1 ⟨hxh, .inr ⟨by omega, by simp only [← hp1, ← hxn]; exact hnl⟩⟩).2
              obtain ⟨hfi, hit⟩ := hTI.1 (.inr (.inr ⟨hxh, hit1⟩))
              have hk0 : k ≠ 0 := by
                intro h0
                have hif : i = f := by have := HK.out; omega
                have h9 : es[i].key < lo := HFR.out.1 i HLT.out (by omega) (by omega)
                have h8 : x < lo := by rw [HX.out]; exact h9
                omega
              clear hxl hxh hit1 hTI hLB hFA hq1 hl1 hnl hr2 hb2 hb2l hp1l hxn hi0 hp1
              have HKI := Lib.hid (show i = f + k by have := HK.out; omega)
              have HIT := Lib.hid hit
              obtain ⟨ia0, ic0, hv1⟩ := own_slice HO1.out
              have cA1 : wA.cell? ⟨RB, 1, none⟩ = some (.slice ia0 k ic0) := by rw [← hv1]; exact (rng_cells HRC.out).2.1
              have yk : ((k : Int) == 0) = false := by rw [beq_eq_false_iff_ne]; omega
              have yk2 : (k == 0) = false := by rw [beq_eq_false_iff_ne]; exact hk0
              have GRC0 := HRC.out
              rw [HFRV.out, if_neg hk0] at GRC0
              clear hv1 hfi hit
              go_upto_region 12 with fail
              obtain ⟨wC, hwC⟩ : ∃ z, z = wA := ⟨_, rfl⟩
              rw [← hwC] at GRC0 ⊢
              have GRC := Lib.hid GRC0
              have HO1C := HO1
              have HO2C := HO2
              have HPTC := HPT
              have HLVC := HLV
              have HSRC := HSR
              have HBLC := HBL
              rw [← hwC] at HO1C HO2C HPTC HLVC HSRC HBLC
              clear hwC cA1 yk yk2 GRC0 hk0
              have hrC : wC.rangeAt ba (oa + i * 33) (eL E) := fun j v hj => (HBLC.out.cell (p := ⟨ba, oa + i * 33 + j, none⟩) HBA.out).trans (HRE.out j v hj)
              have MDC := Lib.hid (show Made wC (RB + 1) v1 k (cellsE ((es.drop f).take k)) v2 vs (pthF es f k) al ((leavesD es).flatten.map vB) from ⟨HO1C.out, by rw [HVL.out]; exact HO2C.out, by rw [List.take_of_length_le (by rw [pthF_length, HVL.out]; exact Nat.le_refl _)]; exact HPTC.out, HLVC.out, HSRC.out⟩)
              have hbaC : ba < RB + 1 := by have := HBA.out; omega
              have KS := Lib.hid (show ∀ w', Below (RB + 1) wC w' → w'.rangeAt ba (oa + i * 33) (eL E) ∧ w'.cell? ⟨RB, 1, none⟩ = some v1 from fun w' hb => ⟨fun j v hj => (hb.cell (p := ⟨ba, oa + i * 33 + j, none⟩) hbaC).trans (hrC j v hj), (hb.cell (p := ⟨RB, 1, none⟩) (Nat.lt_succ_self _)).trans (rng_cells GRC.out).2.1⟩)
              clear hrC hbaC
              go_wp2_with fail
              refine wp_region_final_drew F9 (fun w' => w'.rangeAt ba (oa + i * 33) (eL E) ∧ w'.cell? ⟨RB, 1, none⟩ = some v1) (by kernel_rfl) (KS.out wC.drew ((Below.refl _ _).drew)) (fun hHeld => ?_)
              obtain ⟨wX0, hwX0⟩ : ∃ z, z = wC.drew := ⟨_, rfl⟩
              have BX0 := Lib.hid (show Below (RB + 1) wC wX0 by rw [hwX0]; exact (Below.refl _ _).drew)
              have MD0 := Lib.hid (MDC.out.map (show Below wC.heap.size wC wX0 by rw [hwX0]; exact (Below.refl _ _).drew))
              rw [← hwX0] at hHeld ⊢
              clear hwX0
              refine wpAnyF_take (fs := [9]) (i := 0) (oi := _) (v := .pointer (some ⟨RB, 1, none⟩)) rfl (by kernel_rfl) (by kernel_rfl) (by kernel_rfl) F9_in rfl (by kernel_rfl) (fun _ _ _ h => h) (Or.inl ⟨by rfl, fun w hw => by go_simp⟩) hHeld ?_
              simp only [Act.put, List.getElem_toArray, List.getElem_cons_zero, List.getElem_cons_succ, List.setIfInBounds_toArray, List.set_cons_zero, List.set_cons_succ]
              refine wpAnyF_take (fs := [9]) (i := 1) (oi := _) (v := v1) rfl (by kernel_rfl) (by kernel_rfl) (by kernel_rfl) F9_in rfl (by kernel_rfl) (fun _ _ _ h => h) (Or.inl ⟨by rfl, fun w hw => by have hc := hw.2; clear hw; go_simp⟩) hHeld ?_
              simp only [Act.put, List.getElem_toArray, List.getElem_cons_zero, List.getElem_cons_succ, List.setIfInBounds_toArray, List.set_cons_zero, List.set_cons_succ]
              refine wpAnyF_take (fs := [9]) (i := 2) (oi := _) (v := .slice (some ⟨ba, oa, none⟩) es.length cap) rfl (by kernel_rfl) (by kernel_rfl) (by kernel_rfl) F9_in rfl (by kernel_rfl) (fun _ _ _ h => h) (Or.inl ⟨by rfl, fun w hw => by go_simp⟩) hHeld ?_
              simp only [Act.put, List.getElem_toArray, List.getElem_cons_zero, List.getElem_cons_succ, List.setIfInBounds_toArray, List.set_cons_zero, List.set_cons_succ]
              refine wpAnyF_take (fs := [9]) (i := 3) (oi := _) (v := .int .i64 (i : Int)) rfl (by kernel_rfl) (by kernel_rfl) (by kernel_rfl) F9_in rfl (by kernel_rfl) (fun _ _ _ h => h) (Or.inl ⟨by rfl, fun w hw => by go_simp⟩) hHeld ?_
              simp only [Act.put, List.getElem_toArray, List.getElem_cons_zero, List.getElem_cons_succ, List.setIfInBounds_toArray, List.set_cons_zero, List.set_cons_succ]
              refine wpAnyF_take (fs := [9]) (i := 4) (oi := _) (v := .pointer (some ⟨ba, oa + i * 33, none⟩)) rfl (by kernel_rfl) (by kernel_rfl) (by kernel_rfl) F9_in rfl (by kernel_rfl) (fun _ _ _ h => h) (Or.inl ⟨by rfl, fun w hw => by go_simp⟩) hHeld ?_
              simp only [Act.put, List.getElem_toArray, List.getElem_cons_zero, List.getElem_cons_succ, List.setIfInBounds_toArray, List.set_cons_zero, List.set_cons_succ]
              refine wpAnyF_take (fs := [9]) (i := 5) (oi := _) (v := .agg (eV E.key E.val)) rfl (by kernel_rfl) (by kernel_rfl) (by kernel_rfl) F9_in rfl (by kernel_rfl) (fun _ _ _ h => h) (yieldsIf_load_mid (by rfl) _ _ rfl _ _ rfl (eL E) _ (fun w hw => hw.1) Tryd.underlying35 rfl hinfoE) hHeld ?_
              simp only [Act.put, List.getElem_toArray, List.getElem_cons_zero, List.getElem_cons_succ, List.setIfInBounds_toArray, List.set_cons_zero, List.set_cons_succ]
              refine wpAnyF_ready (rs := [6]) (by kernel_rfl) (by simp) ?_
              refine AllReadyF.cons (o := _) rfl (fun K hK => ?_) AllReadyF.nil
              have HK_ := Lib.hid hK
              clear hK
              refine stepBuild1 40 35 _ 33 40 Tryd.underlying40 info_entz (by omega) (by omega) rfl (.tmp 88) rfl (eV E.key E.val) (by rfl) (eVs HEW.out) ?_
              obtain ⟨IB, hIB⟩ : ∃ z, z = wX0.heap.size := ⟨_, rfl⟩
              rw [← hIB]
              obtain ⟨wX1, hwX1⟩ : ∃ z, z = wX0.alloc (.cells (eV E.key E.val) 35) := ⟨_, rfl⟩
              rw [← hwX1]
              have bs : Below wX0.heap.size wX0 wX1 := by rw [hwX1]; exact (Below.refl _ _).alloc (Nat.le_refl _) _
              have BX1 := Lib.hid (show Below (RB + 1) wC wX1 from BX0.out.trans (bs.mono MD0.out.size))
              have MD1 := Lib.hid (MD0.out.map bs)
              have GI1 := Lib.hid (show wX1.heap[IB]? = some (.cells (eV E.key E.val) 35 (0, 0)) by rw [hwX1, hIB]; exact heap_alloc_new _ _)
              clear hIB hwX1 bs
              have hS : wX1.rangeAt ba (oa + i * 33) (eL E) ∧ wX1.cell? ⟨RB, 1, none⟩ = some v1 := KS.out _ BX1.out
              clear hHeld
              refine HK_.out _ _ (fun _ => hS) ?_
              clear HK_ K
              try simp only [Act.put, List.getElem_toArray, List.getElem_cons_zero, List.getElem_cons_succ, List.setIfInBounds_toArray, List.set_cons_zero, List.set_cons_succ]
              have hHeld := hS
              clear hS
              refine wpAnyF_ready (rs := [7]) (by kernel_rfl) (by simp) ?_
              refine AllReadyF.cons (o := _) rfl (fun K hK => ?_) AllReadyF.nil
              have HK_ := Lib.hid hK
              clear hK
              refine stepAppN 40 35 _ 33 40 Tryd.underlying40 info_entz (show (eV 0 nz).size = 33 from eV_size _ _ rfl) (by omega) (by omega) rfl (.tmp 84) (.tmp 89) (by rfl) (RB + 1) v1 k (cellsE ((es.drop f).take k)) (by rfl) MD1.out.one IB 1 (eL E) (by rfl) (eL_length HEW.out) (fun j hj => by have := range_ent GI1.out j _ (List.getElem?_eq_getElem hj); rwa [Nat.zero_add] at this) (eL_one _) (by omega) MD1.out.size _ rfl ?_
              intro gI cI wX2 hown hgrow hat hlt3
              have BX2 := Lib.hid (show Below (RB + 1) wC wX2 from below_grow BX1.out MD1.out.one hgrow MD1.out.size)
              have MD2 := Lib.hid (MD1.out.app1 hown hgrow hgrow.size)
              clear hown hgrow hat hlt3
              have hS : wX2.rangeAt ba (oa + i * 33) (eL E) ∧ wX2.cell? ⟨RB, 1, none⟩ = some v1 := KS.out _ BX2.out
              clear hHeld
              refine HK_.out _ _ (fun _ => hS) ?_
              clear HK_ K
              try simp only [Act.put, List.getElem_toArray, List.getElem_cons_zero, List.getElem_cons_succ, List.setIfInBounds_toArray, List.set_cons_zero, List.set_cons_succ]
              have hHeld := hS
              clear hS
              have GRF := Lib.hid ((BX2.out.block RB (Nat.lt_succ_self _)).trans GRC.out)
              have cF1 : wX2.cell? ⟨RB, 1, none⟩ = some v1 := (rng_cells GRF.out).2.1
              have fF1 : wX2.frozen? ⟨RB, 1, none⟩ = false := frozen_of_row _ _ _ _ _ GRF.out
              refine wpAnyF_ready (rs := [8]) (by kernel_rfl) (by simp) ?_
              refine AllReadyF.cons (o := _) rfl (fun K hK => ?_) AllReadyF.nil
              have HK_ := Lib.hid hK
              clear hK
              go_simp
              have hS : wX2.rangeAt ba (oa + i * 33) (eL E) ∧ wX2.cell? ⟨RB, 1, none⟩ = some v1 := KS.out _ BX2.out
              clear hHeld
              refine HK_.out _ _ (fun _ => hS) ?_
              clear HK_ K
              try simp only [Act.put, List.getElem_toArray, List.getElem_cons_zero, List.getElem_cons_succ, List.setIfInBounds_toArray, List.set_cons_zero, List.set_cons_succ]
              have hHeld := hS
              clear hS
              refine wpAnyF_ready (rs := [9]) (by kernel_rfl) (by simp) ?_
              refine AllReadyF.cons (o := _) rfl (fun K hK => ?_) AllReadyF.nil
              have HK_ := Lib.hid hK
              clear hK
              go_simp
              obtain ⟨wY, hwY⟩ : ∃ z, z = wX2.setCell ⟨RB, 1, none⟩ (.slice (some ⟨gI, 0, none⟩) (k + 1) cI) := ⟨_, rfl⟩
              rw [← hwY]
              have GRY := Lib.hid (show wY.heap[RB]? = some (.cells #[.int .i64 (f : Int), .slice (some ⟨gI, 0, none⟩) (k + 1) cI, v2] 61 (0, 0)) by rw [hwY]; exact setCell_row GRF.out _)
              have HFAR := Lib.hid (show ∀ g, g ≠ RB → wY.heap[g]? = wX2.heap[g]? from fun g hg => by rw [hwY, setCell_far _ (Ne.symm hg)])
              have BY := Lib.hid (show Below RB w2 wY from HBLC.out.trans ((BX2.out.mono (Nat.le_succ _)).trans (by rw [hwY]; exact (Below.refl RB _).setCell (show RB ≤ (⟨RB, 1, none⟩ : Addr).block from Nat.le_refl RB) _)))
              have HSY := Lib.hid (show RB < wY.heap.size from lt_of_heap GRY.out)
              clear cF1 fF1 hwY hHeld
              refine HK_.out _ _ (fun h => absurd (h 9 rfl) (by decide)) ?_
              clear HK_ K
              try simp only [Act.put, List.getElem_toArray, List.getElem_cons_zero, List.getElem_cons_succ, List.setIfInBounds_toArray, List.set_cons_zero, List.set_cons_succ]
              refine wpAnyF_done (by kernel_rfl) ?_ _
              have MDY := Lib.hid (show Made wY (RB + 1) (.slice (some ⟨gI, 0, none⟩) (k + 1) cI) (k + 1) (cellsE ((es.drop f).take k) ++ eL E) v2 vs (pthF es f k) al ((leavesD es).flatten.map vB) from ⟨own_far MD2.out.one fun g hg => HFAR.out g (by omega), own_far MD2.out.two fun g hg => HFAR.out g (by omega), MD2.out.paths.map fun _ _ hr => hr.other_type GRF.out (by decide) HFAR.out, MD2.out.new.other_type GRF.out (by decide) HFAR.out, HSY.out⟩)
              clear KS MDC MD0 MD1 MD2 GI1 BX0 BX1 BX2 GRF HFAR HO1C HO2C HPTC HLVC HSRC
              have PC := RPath_calls es.length (leavesD es) i (by rw [leavesD_length]; exact Nat.le_refl _) (by rw [leavesD_length]; omega) (by rw [leavesD_length]; exact HLT.out) (leavesD_dig es) al cl 23 (by rw [leavesD_length]; exact CP.out.1) CP.out.2
              rw [leavesD_length] at PC
              have HPC := Lib.hid PC
              have KS := Lib.hid (show ∀ w', Below (RB + 1) wY w' → w'.cell? ⟨RB, 2, none⟩ = some v2 from fun w' hb => (hb.cell (p := ⟨RB, 2, none⟩) (Nat.lt_succ_self _)).trans (rng_cells GRY.out).2.2)
              clear PC
              go_wp2_with fail
              refine wp_region_final_drew F8 (fun w' => w'.cell? ⟨RB, 2, none⟩ = some v2) (by kernel_rfl) (KS.out wY.drew ((Below.refl _ _).drew)) (fun hHeld => ?_)
              obtain ⟨wU0, hwU0⟩ : ∃ z, z = wY.drew := ⟨_, rfl⟩
              have BU0 := Lib.hid (show Below (RB + 1) wY wU0 by rw [hwU0]; exact (Below.refl _ _).drew)
              have MU0 := Lib.hid (MDY.out.map (show Below wY.heap.size wY wU0 by rw [hwU0]; exact (Below.refl _ _).drew))
              rw [← hwU0] at hHeld ⊢
              clear hwU0
              refine wpAnyF_take (fs := [8]) (i := 0) (oi := _) (v := .pointer (some ⟨RB, 2, none⟩)) rfl (by kernel_rfl) (by kernel_rfl) (by kernel_rfl) F8_in rfl (by kernel_rfl) (fun _ _ _ h => h) (Or.inl ⟨by rfl, fun w hw => by go_simp⟩) hHeld ?_
              simp only [Act.put, List.getElem_toArray, List.getElem_cons_zero, List.getElem_cons_succ, List.setIfInBounds_toArray, List.set_cons_zero, List.set_cons_succ]
              refine wpAnyF_take (fs := [8]) (i := 1) (oi := _) (v := v2) rfl (by kernel_rfl) (by kernel_rfl) (by kernel_rfl) F8_in rfl (by kernel_rfl) (fun _ _ _ h => h) (Or.inl ⟨by rfl, fun w hw => by have hc := hw; clear hw; go_simp⟩) hHeld ?_
              simp only [Act.put, List.getElem_toArray, List.getElem_cons_zero, List.getElem_cons_succ, List.setIfInBounds_toArray, List.set_cons_zero, List.set_cons_succ]
              refine wpAnyF_take (fs := [8]) (i := 2) (oi := _) (v := .slice al es.length cl) rfl (by kernel_rfl) (by kernel_rfl) (by kernel_rfl) F8_in rfl (by kernel_rfl) (fun _ _ _ h => h) (Or.inl ⟨by rfl, fun w hw => by go_simp⟩) hHeld ?_
              simp only [Act.put, List.getElem_toArray, List.getElem_cons_zero, List.getElem_cons_succ, List.setIfInBounds_toArray, List.set_cons_zero, List.set_cons_succ]
              refine wpAnyF_take (fs := [8]) (i := 3) (oi := _) (v := .int .i64 (i : Int)) rfl (by kernel_rfl) (by kernel_rfl) (by kernel_rfl) F8_in rfl (by kernel_rfl) (fun _ _ _ h => h) (Or.inl ⟨by rfl, fun w hw => by go_simp⟩) hHeld ?_
              simp only [Act.put, List.getElem_toArray, List.getElem_cons_zero, List.getElem_cons_succ, List.setIfInBounds_toArray, List.set_cons_zero, List.set_cons_succ]
              refine wpAnyF_ready (rs := [4]) (by kernel_rfl) (by simp) ?_
              refine AllReadyF.cons (o := _) rfl (fun K hK => ?_) AllReadyF.nil
              have HK_ := Lib.hid hK
              clear hK
              go_simp
              go_at_call 40
              refine (HPC.out wU0 MU0.out.new).mono ?_
              rintro e wU1 ⟨pa, pc, rfl, hown, hbU⟩
              dsimp only
              have BU1 := Lib.hid (show Below (RB + 1) wY wU1 from BU0.out.trans (hbU.mono MU0.out.size))
              have MU1 := Lib.hid (MU0.out.map hbU)
              have NP1 := Lib.hid (Rd.of_own hown)
              clear hown hbU HPC
              have hS : wU1.cell? ⟨RB, 2, none⟩ = some v2 := KS.out _ BU1.out
              clear hHeld
              refine HK_.out _ _ (fun _ => hS) ?_
              clear HK_ K
              try simp only [Act.put, List.getElem_toArray, List.getElem_cons_zero, List.getElem_cons_succ, List.setIfInBounds_toArray, List.set_cons_zero, List.set_cons_succ]
              have hHeld := hS
              clear hS
              refine wpAnyF_ready (rs := [5]) (by kernel_rfl) (by simp) ?_
              refine AllReadyF.cons (o := _) rfl (fun K hK => ?_) AllReadyF.nil
              have HK_ := Lib.hid hK
              clear hK
              go_simp
              obtain ⟨PB, hPB⟩ : ∃ z, z = wU1.heap.size := ⟨_, rfl⟩
              rw [← hPB]
              obtain ⟨wU2, hwU2⟩ : ∃ z, z = wU1.alloc (.cells #[.slice pa (tlong i es.length) pc] 24) := ⟨_, rfl⟩
              rw [← hwU2]
              have bs : Below wU1.heap.size wU1 wU2 := by rw [hwU2]; exact (Below.refl _ _).alloc (Nat.le_refl _) _
              have BU2 := Lib.hid (show Below (RB + 1) wY wU2 from BU1.out.trans (bs.mono MU1.out.size))
              have MU2 := Lib.hid (MU1.out.map bs)
              have NP2 := Lib.hid (NP1.out.below bs)
              have GP2 := Lib.hid (show wU2.heap[PB]? = some (.cells #[.slice pa (tlong i es.length) pc] 24 (0, 0)) by rw [hwU2, hPB]; exact heap_alloc_new _ _)
              clear hPB hwU2 bs
              have hS : wU2.cell? ⟨RB, 2, none⟩ = some v2 := KS.out _ BU2.out
              clear hHeld
              refine HK_.out _ _ (fun _ => hS) ?_
              clear HK_ K
              try simp only [Act.put, List.getElem_toArray, List.getElem_cons_zero, List.getElem_cons_succ, List.setIfInBounds_toArray, List.set_cons_zero, List.set_cons_succ]
              have hHeld := hS
              clear hS
              refine wpAnyF_ready (rs := [6]) (by kernel_rfl) (by simp) ?_
              refine AllReadyF.cons (o := _) rfl (fun K hK => ?_) AllReadyF.nil
              have HK_ := Lib.hid hK
              clear hK
              refine stepApp1 59 24 _ 24 Tryd.underlying59 info_dgs rfl (by omega) rfl (.tmp 93) (.tmp 97) (by rfl) (RB + 1) v2 vs.length vs (by rfl) MU2.out.two ⟨PB, 0, none⟩ 1 (.slice pa (tlong i es.length) pc) (by rfl) (by rw [cell_of_row _ _ _ _ _ _ GP2.out]; rfl) rfl (by have := HVL.out; omega) MU2.out.size _ rfl ?_
              intro gP cP wU3 hown hgrow hat hlt3
              have BU3 := Lib.hid (show Below (RB + 1) wY wU3 from below_grow BU2.out MU2.out.two hgrow MU2.out.size)
              have MU3 := Lib.hid (MU2.out.app2 (by rw [pthF_length, HVL.out]; exact Nat.le_refl _) hown hgrow hgrow.size)
              have NP3 := Lib.hid (NP2.out.other_app MU2.out.two hgrow dgs_ne_dig)
              clear hown hgrow hat hlt3
              have hS : wU3.cell? ⟨RB, 2, none⟩ = some v2 := KS.out _ BU3.out
              clear hHeld
              refine HK_.out _ _ (fun _ => hS) ?_
              clear HK_ K
              try simp only [Act.put, List.getElem_toArray, List.getElem_cons_zero, List.getElem_cons_succ, List.setIfInBounds_toArray, List.set_cons_zero, List.set_cons_succ]
              have hHeld := hS
              clear hS
              have GRF := Lib.hid ((BU3.out.block RB (Nat.lt_succ_self _)).trans GRY.out)
              have cF1 : wU3.cell? ⟨RB, 2, none⟩ = some v2 := (rng_cells GRF.out).2.2
              have fF1 : wU3.frozen? ⟨RB, 2, none⟩ = false := frozen_of_row _ _ _ _ _ GRF.out
              refine wpAnyF_ready (rs := [7]) (by kernel_rfl) (by simp) ?_
              refine AllReadyF.cons (o := _) rfl (fun K hK => ?_) AllReadyF.nil
              have HK_ := Lib.hid hK
              clear hK
              go_simp
              have hS : wU3.cell? ⟨RB, 2, none⟩ = some v2 := KS.out _ BU3.out
              clear hHeld
              refine HK_.out _ _ (fun _ => hS) ?_
              clear HK_ K
              try simp only [Act.put, List.getElem_toArray, List.getElem_cons_zero, List.getElem_cons_succ, List.setIfInBounds_toArray, List.set_cons_zero, List.set_cons_succ]
              have hHeld := hS
              clear hS
              refine wpAnyF_ready (rs := [8]) (by kernel_rfl) (by simp) ?_
              refine AllReadyF.cons (o := _) rfl (fun K hK => ?_) AllReadyF.nil
              have HK_ := Lib.hid hK
              clear hK
              go_simp
              obtain ⟨wZ, hwZ⟩ : ∃ z, z = wU3.setCell ⟨RB, 2, none⟩ (.slice (some ⟨gP, 0, none⟩) (vs.length + 1) cP) := ⟨_, rfl⟩
              rw [← hwZ]
              have GRZ := Lib.hid (show wZ.heap[RB]? = some (.cells #[.int .i64 (f : Int), .slice (some ⟨gI, 0, none⟩) (k + 1) cI, .slice (some ⟨gP, 0, none⟩) (vs.length + 1) cP] 61 (0, 0)) by rw [hwZ]; exact setCell_row GRF.out _)
              have HFAR := Lib.hid (show ∀ g, g ≠ RB → wZ.heap[g]? = wU3.heap[g]? from fun g hg => by rw [hwZ, setCell_far _ (Ne.symm hg)])
              have BZ := Lib.hid (show Below RB w2 wZ from BY.out.trans ((BU3.out.mono (Nat.le_succ _)).trans (by rw [hwZ]; exact (Below.refl RB _).setCell (show RB ≤ (⟨RB, 2, none⟩ : Addr).block from Nat.le_refl RB) _)))
              have HSZ := Lib.hid (show RB < wZ.heap.size from lt_of_heap GRZ.out)
              clear cF1 fF1 hwZ hHeld
              refine HK_.out _ _ (fun h => absurd (h 8 rfl) (by decide)) ?_
              clear HK_ K
              try simp only [Act.put, List.getElem_toArray, List.getElem_cons_zero, List.getElem_cons_succ, List.setIfInBounds_toArray, List.set_cons_zero, List.set_cons_succ]
              refine wpAnyF_done (by kernel_rfl) ?_ _
              have PTZ := Lib.hid ((show PathsT wU3 (pthF es f k) vs by
                have := MU3.out.paths
                rw [pthF_length, List.take_append_of_le_length (by rw [HVL.out]; exact Nat.le_refl _), List.take_of_length_le (by rw [HVL.out]; exact Nat.le_refl _)] at this
                exact this).snoc (HTD.out) (c := pc) NP3.out |>.map fun _ _ hr => hr.other_type GRF.out (by decide) HFAR.out)
              have O1Z := Lib.hid (own_far MU3.out.one fun g hg => HFAR.out g (by omega))
              have O2Z := Lib.hid (own_far MU3.out.two fun g hg => HFAR.out g (by omega))
              have LVZ := Lib.hid (MU3.out.new.other_type GRF.out (by decide) HFAR.out)
              go_wp2_with fail
              go_roundw
              case rel =>
                refine ⟨q1, k + 1, _, _, vs ++ [.slice pa (tlong i es.length) pc], (f : Int), rfl, Lib.hid (by have := HLT.out; have := HQ1.out; omega), Lib.hid (by have := HKI.out; have := HIT.out; have := HQ1.out; omega), Lib.hid (by rw [if_neg (Nat.succ_ne_zero k)]), GRZ, Lib.hid (by rw [List.length_append, HVL.out]; rfl), Lib.hid ?_, Lib.hid ?_, Lib.hid ?_, LVZ, HSZ, BZ⟩
                · rw [own_one_more HKI.out HLT.out, ← HE.out]; exact O1Z.out
                · have := O2Z.out
                  rw [List.length_append, HVL.out] at this
                  rw [HVL.out]
                  exact this
                · rw [pthF_more es HKI.out]
                  have := PTZ.out
                  rw [HTL2.out] at this
                  exact this
              case measure => simp [intOf]; have := HLT.out; have := HQ1.out; omega
            · have a6 : decide (xn ≤ hi) = false := decide_eq_false hnl
              have hnt : ¬ (f ≤ i ∧ i < t) := fun h => by
                rcases hTI.2 h with h1 | h1 | h1
                · omega
                · omega
                · rcases (hFA.2 h1).2 with h2 | ⟨h2, h3⟩
                  · omega
                  · simp only [← hp1, ← hxn] at h3; omega
              clear hxl hxh hTI hLB hFA hq1 hl1 hnl hr2 hb2 hb2l hp1l hxn hi0 hp1
              have HK2 := Lib.hid (show k = min q1 t - f by have := HK.out; have := HQ1.out; omega)
              clear hnt
              go_wp2_with fail
              go_roundw
              case rel => exact ⟨q1, k, v1, v2, vs, fr, rfl, Lib.hid (by have := HLT.out; have := HQ1.out; omega), HK2, HFRV, HRC, HVL, HO1, HO2, HPT, HLV, HSR, HBL⟩
              case measure => simp [intOf]; have := HLT.out; have := HQ1.out; omega
        · have a3 : decide (hi < x) = false := decide_eq_false hxh
          have a3b : decide (x ≤ hi) = true := decide_eq_true (by omega)
          obtain ⟨hfi, hit⟩ := hTI.1 (.inl ⟨by omega, by omega⟩)
          by_cases hk0 : k = 0
          · clear hxl hxh hTI hLB hFA hq1 hl1
            have HKI := Lib.hid (show i = f + k by have := HK.out; omega)
            have HIT := Lib.hid hit
            have hif : i = f := by have := HK.out; omega
            obtain ⟨ia0, ic0, hv1⟩ := own_slice HO1.out
            have hv10 : v1 = .slice ia0 0 ic0 := by rw [hv1, hk0]
            have cA0 : wA.cell? ⟨RB, 0, none⟩ = some (.int .i64 fr) := (rng_cells HRC.out).1
            have fA0 : wA.frozen? ⟨RB, 0, none⟩ = false := frozen_of_row _ _ _ _ _ HRC.out
            have cA1 : wA.cell? ⟨RB, 1, none⟩ = some (.slice ia0 0 ic0) := by rw [← hv10]; exact (rng_cells HRC.out).2.1
            have HIF := Lib.hid hif
            clear hv1 hv10 hif hfi hit hk0
            go_upto_region 12 with fail
            obtain ⟨wC, hwC⟩ : ∃ z, z = wA.setCell ⟨RB, 0, none⟩ (.int .i64 (i : Int)) := ⟨_, rfl⟩
            rw [← hwC]
            have GRC := Lib.hid (show wC.heap[RB]? = some (.cells #[.int .i64 (f : Int), v1, v2] 61 (0, 0)) by rw [hwC, HIF.out]; exact setCell_row HRC.out _)
            have far0 := Lib.hid (show ∀ g, g ≠ RB → wC.heap[g]? = wA.heap[g]? from fun g hg => by rw [hwC, setCell_far _ (Ne.symm hg)])
            have HO1C := Lib.hid (own_far HO1.out fun g hg => far0.out g (by omega))
            have HO2C := Lib.hid (own_far HO2.out fun g hg => far0.out g (by omega))
            have HPTC := Lib.hid (HPT.out.map fun _ _ hr => hr.other_type HRC.out (by decide) far0.out)
            have HLVC := Lib.hid (HLV.out.other_type HRC.out (by decide) far0.out)
            have HSRC := Lib.hid (show RB < wC.heap.size from lt_of_heap GRC.out)
            have HBLC := Lib.hid (show Below RB w2 wC from HBL.out.trans (by rw [hwC]; exact (Below.refl RB _).setCell (show RB ≤ (⟨RB, 0, none⟩ : Addr).block from Nat.le_refl RB) _))
            clear hwC cA0 fA0 cA1 far0
            have hrC : wC.rangeAt ba (oa + i * 33) (eL E) := fun j v hj => (HBLC.out.cell (p := ⟨ba, oa + i * 33 + j, none⟩) HBA.out).trans (HRE.out j v hj)
            have MDC := Lib.hid (show Made wC (RB + 1) v1 k (cellsE ((es.drop f).take k)) v2 vs (pthF es f k) al ((leavesD es).flatten.map vB) from ⟨HO1C.out, by rw [HVL.out]; exact HO2C.out, by rw [List.take_of_length_le (by rw [pthF_length, HVL.out]; exact Nat.le_refl _)]; exact HPTC.out, HLVC.out, HSRC.out⟩)
            have hbaC : ba < RB + 1 := by have := HBA.out; omega
            have KS := Lib.hid (show ∀ w', Below (RB + 1) wC w' → w'.rangeAt ba (oa + i * 33) (eL E) ∧ w'.cell? ⟨RB, 1, none⟩ = some v1 from fun w' hb => ⟨fun j v hj => (hb.cell (p := ⟨ba, oa + i * 33 + j, none⟩) hbaC).trans (hrC j v hj), (hb.cell (p := ⟨RB, 1, none⟩) (Nat.lt_succ_self _)).trans (rng_cells GRC.out).2.1⟩)
            clear hrC hbaC
            go_wp2_with fail
            refine wp_region_final_drew F9 (fun w' => w'.rangeAt ba (oa + i * 33) (eL E) ∧ w'.cell? ⟨RB, 1, none⟩ = some v1) (by kernel_rfl) (KS.out wC.drew ((Below.refl _ _).drew)) (fun hHeld => ?_)
            obtain ⟨wX0, hwX0⟩ : ∃ z, z = wC.drew := ⟨_, rfl⟩
            have BX0 := Lib.hid (show Below (RB + 1) wC wX0 by rw [hwX0]; exact (Below.refl _ _).drew)
            have MD0 := Lib.hid (MDC.out.map (show Below wC.heap.size wC wX0 by rw [hwX0]; exact (Below.refl _ _).drew))
            rw [← hwX0] at hHeld ⊢
            clear hwX0
            refine wpAnyF_take (fs := [9]) (i := 0) (oi := _) (v := .pointer (some ⟨RB, 1, none⟩)) rfl (by kernel_rfl) (by kernel_rfl) (by kernel_rfl) F9_in rfl (by kernel_rfl) (fun _ _ _ h => h) (Or.inl ⟨by rfl, fun w hw => by go_simp⟩) hHeld ?_
            simp only [Act.put, List.getElem_toArray, List.getElem_cons_zero, List.getElem_cons_succ, List.setIfInBounds_toArray, List.set_cons_zero, List.set_cons_succ]
            refine wpAnyF_take (fs := [9]) (i := 1) (oi := _) (v := v1) rfl (by kernel_rfl) (by kernel_rfl) (by kernel_rfl) F9_in rfl (by kernel_rfl) (fun _ _ _ h => h) (Or.inl ⟨by rfl, fun w hw => by have hc := hw.2; clear hw; go_simp⟩) hHeld ?_
            simp only [Act.put, List.getElem_toArray, List.getElem_cons_zero, List.getElem_cons_succ, List.setIfInBounds_toArray, List.set_cons_zero, List.set_cons_succ]
            refine wpAnyF_take (fs := [9]) (i := 2) (oi := _) (v := .slice (some ⟨ba, oa, none⟩) es.length cap) rfl (by kernel_rfl) (by kernel_rfl) (by kernel_rfl) F9_in rfl (by kernel_rfl) (fun _ _ _ h => h) (Or.inl ⟨by rfl, fun w hw => by go_simp⟩) hHeld ?_
            simp only [Act.put, List.getElem_toArray, List.getElem_cons_zero, List.getElem_cons_succ, List.setIfInBounds_toArray, List.set_cons_zero, List.set_cons_succ]
            refine wpAnyF_take (fs := [9]) (i := 3) (oi := _) (v := .int .i64 (i : Int)) rfl (by kernel_rfl) (by kernel_rfl) (by kernel_rfl) F9_in rfl (by kernel_rfl) (fun _ _ _ h => h) (Or.inl ⟨by rfl, fun w hw => by go_simp⟩) hHeld ?_
            simp only [Act.put, List.getElem_toArray, List.getElem_cons_zero, List.getElem_cons_succ, List.setIfInBounds_toArray, List.set_cons_zero, List.set_cons_succ]
            refine wpAnyF_take (fs := [9]) (i := 4) (oi := _) (v := .pointer (some ⟨ba, oa + i * 33, none⟩)) rfl (by kernel_rfl) (by kernel_rfl) (by kernel_rfl) F9_in rfl (by kernel_rfl) (fun _ _ _ h => h) (Or.inl ⟨by rfl, fun w hw => by go_simp⟩) hHeld ?_
            simp only [Act.put, List.getElem_toArray, List.getElem_cons_zero, List.getElem_cons_succ, List.setIfInBounds_toArray, List.set_cons_zero, List.set_cons_succ]
            refine wpAnyF_take (fs := [9]) (i := 5) (oi := _) (v := .agg (eV E.key E.val)) rfl (by kernel_rfl) (by kernel_rfl) (by kernel_rfl) F9_in rfl (by kernel_rfl) (fun _ _ _ h => h) (yieldsIf_load_mid (by rfl) _ _ rfl _ _ rfl (eL E) _ (fun w hw => hw.1) Tryd.underlying35 rfl hinfoE) hHeld ?_
            simp only [Act.put, List.getElem_toArray, List.getElem_cons_zero, List.getElem_cons_succ, List.setIfInBounds_toArray, List.set_cons_zero, List.set_cons_succ]
            refine wpAnyF_ready (rs := [6]) (by kernel_rfl) (by simp) ?_
            refine AllReadyF.cons (o := _) rfl (fun K hK => ?_) AllReadyF.nil
            have HK_ := Lib.hid hK
            clear hK
            refine stepBuild1 40 35 _ 33 40 Tryd.underlying40 info_entz (by omega) (by omega) rfl (.tmp 88) rfl (eV E.key E.val) (by rfl) (eVs HEW.out) ?_
            obtain ⟨IB, hIB⟩ : ∃ z, z = wX0.heap.size := ⟨_, rfl⟩
            rw [← hIB]
            obtain ⟨wX1, hwX1⟩ : ∃ z, z = wX0.alloc (.cells (eV E.key E.val) 35) := ⟨_, rfl⟩
            rw [← hwX1]
            have bs : Below wX0.heap.size wX0 wX1 := by rw [hwX1]; exact (Below.refl _ _).alloc (Nat.le_refl _) _
            have BX1 := Lib.hid (show Below (RB + 1) wC wX1 from BX0.out.trans (bs.mono MD0.out.size))
            have MD1 := Lib.hid (MD0.out.map bs)
            have GI1 := Lib.hid (show wX1.heap[IB]? = some (.cells (eV E.key E.val) 35 (0, 0)) by rw [hwX1, hIB]; exact heap_alloc_new _ _)
            clear hIB hwX1 bs
            have hS : wX1.rangeAt ba (oa + i * 33) (eL E) ∧ wX1.cell? ⟨RB, 1, none⟩ = some v1 := KS.out _ BX1.out
            clear hHeld
            refine HK_.out _ _ (fun _ => hS) ?_
            clear HK_ K
            try simp only [Act.put, List.getElem_toArray, List.getElem_cons_zero, List.getElem_cons_succ, List.setIfInBounds_toArray, List.set_cons_zero, List.set_cons_succ]
            have hHeld := hS
            clear hS
            refine wpAnyF_ready (rs := [7]) (by kernel_rfl) (by simp) ?_
            refine AllReadyF.cons (o := _) rfl (fun K hK => ?_) AllReadyF.nil
            have HK_ := Lib.hid hK
            clear hK
            refine stepAppN 40 35 _ 33 40 Tryd.underlying40 info_entz (show (eV 0 nz).size = 33 from eV_size _ _ rfl) (by omega) (by omega) rfl (.tmp 84) (.tmp 89) (by rfl) (RB + 1) v1 k (cellsE ((es.drop f).take k)) (by rfl) MD1.out.one IB 1 (eL E) (by rfl) (eL_length HEW.out) (fun j hj => by have := range_ent GI1.out j _ (List.getElem?_eq_getElem hj); rwa [Nat.zero_add] at this) (eL_one _) (by omega) MD1.out.size _ rfl ?_
            intro gI cI wX2 hown hgrow hat hlt3
            have BX2 := Lib.hid (show Below (RB + 1) wC wX2 from below_grow BX1.out MD1.out.one hgrow MD1.out.size)
            have MD2 := Lib.hid (MD1.out.app1 hown hgrow hgrow.size)
            clear hown hgrow hat hlt3
            have hS : wX2.rangeAt ba (oa + i * 33) (eL E) ∧ wX2.cell? ⟨RB, 1, none⟩ = some v1 := KS.out _ BX2.out
            clear hHeld
            refine HK_.out _ _ (fun _ => hS) ?_
            clear HK_ K
            try simp only [Act.put, List.getElem_toArray, List.getElem_cons_zero, List.getElem_cons_succ, List.setIfInBounds_toArray, List.set_cons_zero, List.set_cons_succ]
            have hHeld := hS
            clear hS
            have GRF := Lib.hid ((BX2.out.block RB (Nat.lt_succ_self _)).trans GRC.out)
            have cF1 : wX2.cell? ⟨RB, 1, none⟩ = some v1 := (rng_cells GRF.out).2.1
            have fF1 : wX2.frozen? ⟨RB, 1, none⟩ = false := frozen_of_row _ _ _ _ _ GRF.out
            refine wpAnyF_ready (rs := [8]) (by kernel_rfl) (by simp) ?_
            refine AllReadyF.cons (o := _) rfl (fun K hK => ?_) AllReadyF.nil
            have HK_ := Lib.hid hK
            clear hK
            go_simp
            have hS : wX2.rangeAt ba (oa + i * 33) (eL E) ∧ wX2.cell? ⟨RB, 1, none⟩ = some v1 := KS.out _ BX2.out
            clear hHeld
            refine HK_.out _ _ (fun _ => hS) ?_
            clear HK_ K
            try simp only [Act.put, List.getElem_toArray, List.getElem_cons_zero, List.getElem_cons_succ, List.setIfInBounds_toArray, List.set_cons_zero, List.set_cons_succ]
            have hHeld := hS
            clear hS
            refine wpAnyF_ready (rs := [9]) (by kernel_rfl) (by simp) ?_
            refine AllReadyF.cons (o := _) rfl (fun K hK => ?_) AllReadyF.nil
            have HK_ := Lib.hid hK
            clear hK
            go_simp
            obtain ⟨wY, hwY⟩ : ∃ z, z = wX2.setCell ⟨RB, 1, none⟩ (.slice (some ⟨gI, 0, none⟩) (k + 1) cI) := ⟨_, rfl⟩
            rw [← hwY]
            have GRY := Lib.hid (show wY.heap[RB]? = some (.cells #[.int .i64 (f : Int), .slice (some ⟨gI, 0, none⟩) (k + 1) cI, v2] 61 (0, 0)) by rw [hwY]; exact setCell_row GRF.out _)
            have HFAR := Lib.hid (show ∀ g, g ≠ RB → wY.heap[g]? = wX2.heap[g]? from fun g hg => by rw [hwY, setCell_far _ (Ne.symm hg)])
            have BY := Lib.hid (show Below RB w2 wY from HBLC.out.trans ((BX2.out.mono (Nat.le_succ _)).trans (by rw [hwY]; exact (Below.refl RB _).setCell (show RB ≤ (⟨RB, 1, none⟩ : Addr).block from Nat.le_refl RB) _)))
            have HSY := Lib.hid (show RB < wY.heap.size from lt_of_heap GRY.out)
            clear cF1 fF1 hwY hHeld
            refine HK_.out _ _ (fun h => absurd (h 9 rfl) (by decide)) ?_
            clear HK_ K
            try simp only [Act.put, List.getElem_toArray, List.getElem_cons_zero, List.getElem_cons_succ, List.setIfInBounds_toArray, List.set_cons_zero, List.set_cons_succ]
            refine wpAnyF_done (by kernel_rfl) ?_ _
            have MDY := Lib.hid (show Made wY (RB + 1) (.slice (some ⟨gI, 0, none⟩) (k + 1) cI) (k + 1) (cellsE ((es.drop f).take k) ++ eL E) v2 vs (pthF es f k) al ((leavesD es).flatten.map vB) from ⟨own_far MD2.out.one fun g hg => HFAR.out g (by omega), own_far MD2.out.two fun g hg => HFAR.out g (by omega), MD2.out.paths.map fun _ _ hr => hr.other_type GRF.out (by decide) HFAR.out, MD2.out.new.other_type GRF.out (by decide) HFAR.out, HSY.out⟩)
            clear KS MDC MD0 MD1 MD2 GI1 BX0 BX1 BX2 GRF HFAR HO1C HO2C HPTC HLVC HSRC
            have PC := RPath_calls es.length (leavesD es) i (by rw [leavesD_length]; exact Nat.le_refl _) (by rw [leavesD_length]; omega) (by rw [leavesD_length]; exact HLT.out) (leavesD_dig es) al cl 23 (by rw [leavesD_length]; exact CP.out.1) CP.out.2
            rw [leavesD_length] at PC
            have HPC := Lib.hid PC
            have KS := Lib.hid (show ∀ w', Below (RB + 1) wY w' → w'.cell? ⟨RB, 2, none⟩ = some v2 from fun w' hb => (hb.cell (p := ⟨RB, 2, none⟩) (Nat.lt_succ_self _)).trans (rng_cells GRY.out).2.2)
            clear PC
            go_wp2_with fail
            refine wp_region_final_drew F8 (fun w' => w'.cell? ⟨RB, 2, none⟩ = some v2) (by kernel_rfl) (KS.out wY.drew ((Below.refl _ _).drew)) (fun hHeld => ?_)
            obtain ⟨wU0, hwU0⟩ : ∃ z, z = wY.drew := ⟨_, rfl⟩
            have BU0 := Lib.hid (show Below (RB + 1) wY wU0 by rw [hwU0]; exact (Below.refl _ _).drew)
            have MU0 := Lib.hid (MDY.out.map (show Below wY.heap.size wY wU0 by rw [hwU0]; exact (Below.refl _ _).drew))
            rw [← hwU0] at hHeld ⊢
            clear hwU0
            refine wpAnyF_take (fs := [8]) (i := 0) (oi := _) (v := .pointer (some ⟨RB, 2, none⟩)) rfl (by kernel_rfl) (by kernel_rfl) (by kernel_rfl) F8_in rfl (by kernel_rfl) (fun _ _ _ h => h) (Or.inl ⟨by rfl, fun w hw => by go_simp⟩) hHeld ?_
            simp only [Act.put, List.getElem_toArray, List.getElem_cons_zero, List.getElem_cons_succ, List.setIfInBounds_toArray, List.set_cons_zero, List.set_cons_succ]
            refine wpAnyF_take (fs := [8]) (i := 1) (oi := _) (v := v2) rfl (by kernel_rfl) (by kernel_rfl) (by kernel_rfl) F8_in rfl (by kernel_rfl) (fun _ _ _ h => h) (Or.inl ⟨by rfl, fun w hw => by have hc := hw; clear hw; go_simp⟩) hHeld ?_
            simp only [Act.put, List.getElem_toArray, List.getElem_cons_zero, List.getElem_cons_succ, List.setIfInBounds_toArray, List.set_cons_zero, List.set_cons_succ]
            refine wpAnyF_take (fs := [8]) (i := 2) (oi := _) (v := .slice al es.length cl) rfl (by kernel_rfl) (by kernel_rfl) (by kernel_rfl) F8_in rfl (by kernel_rfl) (fun _ _ _ h => h) (Or.inl ⟨by rfl, fun w hw => by go_simp⟩) hHeld ?_
            simp only [Act.put, List.getElem_toArray, List.getElem_cons_zero, List.getElem_cons_succ, List.setIfInBounds_toArray, List.set_cons_zero, List.set_cons_succ]
            refine wpAnyF_take (fs := [8]) (i := 3) (oi := _) (v := .int .i64 (i : Int)) rfl (by kernel_rfl) (by kernel_rfl) (by kernel_rfl) F8_in rfl (by kernel_rfl) (fun _ _ _ h => h) (Or.inl ⟨by rfl, fun w hw => by go_simp⟩) hHeld ?_
            simp only [Act.put, List.getElem_toArray, List.getElem_cons_zero, List.getElem_cons_succ, List.setIfInBounds_toArray, List.set_cons_zero, List.set_cons_succ]
            refine wpAnyF_ready (rs := [4]) (by kernel_rfl) (by simp) ?_
            refine AllReadyF.cons (o := _) rfl (fun K hK => ?_) AllReadyF.nil
            have HK_ := Lib.hid hK
            clear hK
            go_simp
            go_at_call 40
            refine (HPC.out wU0 MU0.out.new).mono ?_
            rintro e wU1 ⟨pa, pc, rfl, hown, hbU⟩
            dsimp only
            have BU1 := Lib.hid (show Below (RB + 1) wY wU1 from BU0.out.trans (hbU.mono MU0.out.size))
            have MU1 := Lib.hid (MU0.out.map hbU)
            have NP1 := Lib.hid (Rd.of_own hown)
            clear hown hbU HPC
            have hS : wU1.cell? ⟨RB, 2, none⟩ = some v2 := KS.out _ BU1.out
            clear hHeld
            refine HK_.out _ _ (fun _ => hS) ?_
            clear HK_ K
            try simp only [Act.put, List.getElem_toArray, List.getElem_cons_zero, List.getElem_cons_succ, List.setIfInBounds_toArray, List.set_cons_zero, List.set_cons_succ]
            have hHeld := hS
            clear hS
            refine wpAnyF_ready (rs := [5]) (by kernel_rfl) (by simp) ?_
            refine AllReadyF.cons (o := _) rfl (fun K hK => ?_) AllReadyF.nil
            have HK_ := Lib.hid hK
            clear hK
            go_simp
            obtain ⟨PB, hPB⟩ : ∃ z, z = wU1.heap.size := ⟨_, rfl⟩
            rw [← hPB]
            obtain ⟨wU2, hwU2⟩ : ∃ z, z = wU1.alloc (.cells #[.slice pa (tlong i es.length) pc] 24) := ⟨_, rfl⟩
            rw [← hwU2]
            have bs : Below wU1.heap.size wU1 wU2 := by rw [hwU2]; exact (Below.refl _ _).alloc (Nat.le_refl _) _
            have BU2 := Lib.hid (show Below (RB + 1) wY wU2 from BU1.out.trans (bs.mono MU1.out.size))
            have MU2 := Lib.hid (MU1.out.map bs)
            have NP2 := Lib.hid (NP1.out.below bs)
            have GP2 := Lib.hid (show wU2.heap[PB]? = some (.cells #[.slice pa (tlong i es.length) pc] 24 (0, 0)) by rw [hwU2, hPB]; exact heap_alloc_new _ _)
            clear hPB hwU2 bs
            have hS : wU2.cell? ⟨RB, 2, none⟩ = some v2 := KS.out _ BU2.out
            clear hHeld
            refine HK_.out _ _ (fun _ => hS) ?_
            clear HK_ K
            try simp only [Act.put, List.getElem_toArray, List.getElem_cons_zero, List.getElem_cons_succ, List.setIfInBounds_toArray, List.set_cons_zero, List.set_cons_succ]
            have hHeld := hS
            clear hS
            refine wpAnyF_ready (rs := [6]) (by kernel_rfl) (by simp) ?_
            refine AllReadyF.cons (o := _) rfl (fun K hK => ?_) AllReadyF.nil
            have HK_ := Lib.hid hK
            clear hK
            refine stepApp1 59 24 _ 24 Tryd.underlying59 info_dgs rfl (by omega) rfl (.tmp 93) (.tmp 97) (by rfl) (RB + 1) v2 vs.length vs (by rfl) MU2.out.two ⟨PB, 0, none⟩ 1 (.slice pa (tlong i es.length) pc) (by rfl) (by rw [cell_of_row _ _ _ _ _ _ GP2.out]; rfl) rfl (by have := HVL.out; omega) MU2.out.size _ rfl ?_
            intro gP cP wU3 hown hgrow hat hlt3
            have BU3 := Lib.hid (show Below (RB + 1) wY wU3 from below_grow BU2.out MU2.out.two hgrow MU2.out.size)
            have MU3 := Lib.hid (MU2.out.app2 (by rw [pthF_length, HVL.out]; exact Nat.le_refl _) hown hgrow hgrow.size)
            have NP3 := Lib.hid (NP2.out.other_app MU2.out.two hgrow dgs_ne_dig)
            clear hown hgrow hat hlt3
            have hS : wU3.cell? ⟨RB, 2, none⟩ = some v2 := KS.out _ BU3.out
            clear hHeld
            refine HK_.out _ _ (fun _ => hS) ?_
            clear HK_ K
            try simp only [Act.put, List.getElem_toArray, List.getElem_cons_zero, List.getElem_cons_succ, List.setIfInBounds_toArray, List.set_cons_zero, List.set_cons_succ]
            have hHeld := hS
            clear hS
            have GRF := Lib.hid ((BU3.out.block RB (Nat.lt_succ_self _)).trans GRY.out)
            have cF1 : wU3.cell? ⟨RB, 2, none⟩ = some v2 := (rng_cells GRF.out).2.2
            have fF1 : wU3.frozen? ⟨RB, 2, none⟩ = false := frozen_of_row _ _ _ _ _ GRF.out
            refine wpAnyF_ready (rs := [7]) (by kernel_rfl) (by simp) ?_
            refine AllReadyF.cons (o := _) rfl (fun K hK => ?_) AllReadyF.nil
            have HK_ := Lib.hid hK
            clear hK
            go_simp
            have hS : wU3.cell? ⟨RB, 2, none⟩ = some v2 := KS.out _ BU3.out
            clear hHeld
            refine HK_.out _ _ (fun _ => hS) ?_
            clear HK_ K
            try simp only [Act.put, List.getElem_toArray, List.getElem_cons_zero, List.getElem_cons_succ, List.setIfInBounds_toArray, List.set_cons_zero, List.set_cons_succ]
            have hHeld := hS
            clear hS
            refine wpAnyF_ready (rs := [8]) (by kernel_rfl) (by simp) ?_
            refine AllReadyF.cons (o := _) rfl (fun K hK => ?_) AllReadyF.nil
            have HK_ := Lib.hid hK
            clear hK
            go_simp
            obtain ⟨wZ, hwZ⟩ : ∃ z, z = wU3.setCell ⟨RB, 2, none⟩ (.slice (some ⟨gP, 0, none⟩) (vs.length + 1) cP) := ⟨_, rfl⟩
            rw [← hwZ]
            have GRZ := Lib.hid (show wZ.heap[RB]? = some (.cells #[.int .i64 (f : Int), .slice (some ⟨gI, 0, none⟩) (k + 1) cI, .slice (some ⟨gP, 0, none⟩) (vs.length + 1) cP] 61 (0, 0)) by rw [hwZ]; exact setCell_row GRF.out _)
            have HFAR := Lib.hid (show ∀ g, g ≠ RB → wZ.heap[g]? = wU3.heap[g]? from fun g hg => by rw [hwZ, setCell_far _ (Ne.symm hg)])
            have BZ := Lib.hid (show Below RB w2 wZ from BY.out.trans ((BU3.out.mono (Nat.le_succ _)).trans (by rw [hwZ]; exact (Below.refl RB _).setCell (show RB ≤ (⟨RB, 2, none⟩ : Addr).block from Nat.le_refl RB) _)))
            have HSZ := Lib.hid (show RB < wZ.heap.size from lt_of_heap GRZ.out)
            clear cF1 fF1 hwZ hHeld
            refine HK_.out _ _ (fun h => absurd (h 8 rfl) (by decide)) ?_
            clear HK_ K
            try simp only [Act.put, List.getElem_toArray, List.getElem_cons_zero, List.getElem_cons_succ, List.setIfInBounds_toArray, List.set_cons_zero, List.set_cons_succ]
            refine wpAnyF_done (by kernel_rfl) ?_ _
            have PTZ := Lib.hid ((show PathsT wU3 (pthF es f k) vs by
              have := MU3.out.paths
              rw [pthF_length, List.take_append_of_le_length (by rw [HVL.out]; exact Nat.le_refl _), List.take_of_length_le (by rw [HVL.out]; exact Nat.le_refl _)] at this
              exact this).snoc (HTD.out) (c := pc) NP3.out |>.map fun _ _ hr => hr.other_type GRF.out (by decide) HFAR.out)
            have O1Z := Lib.hid (own_far MU3.out.one fun g hg => HFAR.out g (by omega))
            have O2Z := Lib.hid (own_far MU3.out.two fun g hg => HFAR.out g (by omega))
            have LVZ := Lib.hid (MU3.out.new.other_type GRF.out (by decide) HFAR.out)
            go_wp2_with fail
            go_roundw
            case rel =>
              refine ⟨q1, k + 1, _, _, vs ++ [.slice pa (tlong i es.length) pc], (f : Int), rfl, Lib.hid (by have := HLT.out; have := HQ1.out; omega), Lib.hid (by have := HKI.out; have := HIT.out; have := HQ1.out; omega), Lib.hid (by rw [if_neg (Nat.succ_ne_zero k)]), GRZ, Lib.hid (by rw [List.length_append, HVL.out]; rfl), Lib.hid ?_, Lib.hid ?_, Lib.hid ?_, LVZ, HSZ, BZ⟩
              · rw [own_one_more HKI.out HLT.out, ← HE.out]; exact O1Z.out
              · have := O2Z.out
                rw [List.length_append, HVL.out] at this
                rw [HVL.out]
                exact this
              · rw [pthF_more es HKI.out]
                have := PTZ.out
                rw [HTL2.out] at this
                exact this
            case measure => simp [intOf]; have := HLT.out; have := HQ1.out; omega
          · clear hxl hxh hTI hLB hFA hq1 hl1
            have HKI := Lib.hid (show i = f + k by have := HK.out; omega)
            have HIT := Lib.hid hit
            obtain ⟨ia0, ic0, hv1⟩ := own_slice HO1.out
            have cA1 : wA.cell? ⟨RB, 1, none⟩ = some (.slice ia0 k ic0) := by rw [← hv1]; exact (rng_cells HRC.out).2.1
            have yk : ((k : Int) == 0) = false := by rw [beq_eq_false_iff_ne]; omega
            have yk2 : (k == 0) = false := by rw [beq_eq_false_iff_ne]; exact hk0
            have GRC0 := HRC.out
            rw [HFRV.out, if_neg hk0] at GRC0
            clear hv1 hfi hit
            go_upto_region 12 with fail
            obtain ⟨wC, hwC⟩ : ∃ z, z = wA := ⟨_, rfl⟩
            rw [← hwC] at GRC0 ⊢
            have GRC := Lib.hid GRC0
            have HO1C := HO1
            have HO2C := HO2
            have HPTC := HPT
            have HLVC := HLV
            have HSRC := HSR
            have HBLC := HBL
            rw [← hwC] at HO1C HO2C HPTC HLVC HSRC HBLC
            clear hwC cA1 yk yk2 GRC0 hk0
            have hrC : wC.rangeAt ba (oa + i * 33) (eL E) := fun j v hj => (HBLC.out.cell (p := ⟨ba, oa + i * 33 + j, none⟩) HBA.out).trans (HRE.out j v hj)
            have MDC := Lib.hid (show Made wC (RB + 1) v1 k (cellsE ((es.drop f).take k)) v2 vs (pthF es f k) al ((leavesD es).flatten.map vB) from ⟨HO1C.out, by rw [HVL.out]; exact HO2C.out, by rw [List.take_of_length_le (by rw [pthF_length, HVL.out]; exact Nat.le_refl _)]; exact HPTC.out, HLVC.out, HSRC.out⟩)
            have hbaC : ba < RB + 1 := by have := HBA.out; omega
            have KS := Lib.hid (show ∀ w', Below (RB + 1) wC w' → w'.rangeAt ba (oa + i * 33) (eL E) ∧ w'.cell? ⟨RB, 1, none⟩ = some v1 from fun w' hb => ⟨fun j v hj => (hb.cell (p := ⟨ba, oa + i * 33 + j, none⟩) hbaC).trans (hrC j v hj), (hb.cell (p := ⟨RB, 1, none⟩) (Nat.lt_succ_self _)).trans (rng_cells GRC.out).2.1⟩)
            clear hrC hbaC
            go_wp2_with fail
            refine wp_region_final_drew F9 (fun w' => w'.rangeAt ba (oa + i * 33) (eL E) ∧ w'.cell? ⟨RB, 1, none⟩ = some v1) (by kernel_rfl) (KS.out wC.drew ((Below.refl _ _).drew)) (fun hHeld => ?_)
            obtain ⟨wX0, hwX0⟩ : ∃ z, z = wC.drew := ⟨_, rfl⟩
            have BX0 := Lib.hid (show Below (RB + 1) wC wX0 by rw [hwX0]; exact (Below.refl _ _).drew)
            have MD0 := Lib.hid (MDC.out.map (show Below wC.heap.size wC wX0 by rw [hwX0]; exact (Below.refl _ _).drew))
            rw [← hwX0] at hHeld ⊢
            clear hwX0
            refine wpAnyF_take (fs := [9]) (i := 0) (oi := _) (v := .pointer (some ⟨RB, 1, none⟩)) rfl (by kernel_rfl) (by kernel_rfl) (by kernel_rfl) F9_in rfl (by kernel_rfl) (fun _ _ _ h => h) (Or.inl ⟨by rfl, fun w hw => by go_simp⟩) hHeld ?_
            simp only [Act.put, List.getElem_toArray, List.getElem_cons_zero, List.getElem_cons_succ, List.setIfInBounds_toArray, List.set_cons_zero, List.set_cons_succ]
            refine wpAnyF_take (fs := [9]) (i := 1) (oi := _) (v := v1) rfl (by kernel_rfl) (by kernel_rfl) (by kernel_rfl) F9_in rfl (by kernel_rfl) (fun _ _ _ h => h) (Or.inl ⟨by rfl, fun w hw => by have hc := hw.2; clear hw; go_simp⟩) hHeld ?_
            simp only [Act.put, List.getElem_toArray, List.getElem_cons_zero, List.getElem_cons_succ, List.setIfInBounds_toArray, List.set_cons_zero, List.set_cons_succ]
            refine wpAnyF_take (fs := [9]) (i := 2) (oi := _) (v := .slice (some ⟨ba, oa, none⟩) es.length cap) rfl (by kernel_rfl) (by kernel_rfl) (by kernel_rfl) F9_in rfl (by kernel_rfl) (fun _ _ _ h => h) (Or.inl ⟨by rfl, fun w hw => by go_simp⟩) hHeld ?_
            simp only [Act.put, List.getElem_toArray, List.getElem_cons_zero, List.getElem_cons_succ, List.setIfInBounds_toArray, List.set_cons_zero, List.set_cons_succ]
            refine wpAnyF_take (fs := [9]) (i := 3) (oi := _) (v := .int .i64 (i : Int)) rfl (by kernel_rfl) (by kernel_rfl) (by kernel_rfl) F9_in rfl (by kernel_rfl) (fun _ _ _ h => h) (Or.inl ⟨by rfl, fun w hw => by go_simp⟩) hHeld ?_
            simp only [Act.put, List.getElem_toArray, List.getElem_cons_zero, List.getElem_cons_succ, List.setIfInBounds_toArray, List.set_cons_zero, List.set_cons_succ]
            refine wpAnyF_take (fs := [9]) (i := 4) (oi := _) (v := .pointer (some ⟨ba, oa + i * 33, none⟩)) rfl (by kernel_rfl) (by kernel_rfl) (by kernel_rfl) F9_in rfl (by kernel_rfl) (fun _ _ _ h => h) (Or.inl ⟨by rfl, fun w hw => by go_simp⟩) hHeld ?_
            simp only [Act.put, List.getElem_toArray, List.getElem_cons_zero, List.getElem_cons_succ, List.setIfInBounds_toArray, List.set_cons_zero, List.set_cons_succ]
            refine wpAnyF_take (fs := [9]) (i := 5) (oi := _) (v := .agg (eV E.key E.val)) rfl (by kernel_rfl) (by kernel_rfl) (by kernel_rfl) F9_in rfl (by kernel_rfl) (fun _ _ _ h => h) (yieldsIf_load_mid (by rfl) _ _ rfl _ _ rfl (eL E) _ (fun w hw => hw.1) Tryd.underlying35 rfl hinfoE) hHeld ?_
            simp only [Act.put, List.getElem_toArray, List.getElem_cons_zero, List.getElem_cons_succ, List.setIfInBounds_toArray, List.set_cons_zero, List.set_cons_succ]
            refine wpAnyF_ready (rs := [6]) (by kernel_rfl) (by simp) ?_
            refine AllReadyF.cons (o := _) rfl (fun K hK => ?_) AllReadyF.nil
            have HK_ := Lib.hid hK
            clear hK
            refine stepBuild1 40 35 _ 33 40 Tryd.underlying40 info_entz (by omega) (by omega) rfl (.tmp 88) rfl (eV E.key E.val) (by rfl) (eVs HEW.out) ?_
            obtain ⟨IB, hIB⟩ : ∃ z, z = wX0.heap.size := ⟨_, rfl⟩
            rw [← hIB]
            obtain ⟨wX1, hwX1⟩ : ∃ z, z = wX0.alloc (.cells (eV E.key E.val) 35) := ⟨_, rfl⟩
            rw [← hwX1]
            have bs : Below wX0.heap.size wX0 wX1 := by rw [hwX1]; exact (Below.refl _ _).alloc (Nat.le_refl _) _
            have BX1 := Lib.hid (show Below (RB + 1) wC wX1 from BX0.out.trans (bs.mono MD0.out.size))
            have MD1 := Lib.hid (MD0.out.map bs)
            have GI1 := Lib.hid (show wX1.heap[IB]? = some (.cells (eV E.key E.val) 35 (0, 0)) by rw [hwX1, hIB]; exact heap_alloc_new _ _)
            clear hIB hwX1 bs
            have hS : wX1.rangeAt ba (oa + i * 33) (eL E) ∧ wX1.cell? ⟨RB, 1, none⟩ = some v1 := KS.out _ BX1.out
            clear hHeld
            refine HK_.out _ _ (fun _ => hS) ?_
            clear HK_ K
            try simp only [Act.put, List.getElem_toArray, List.getElem_cons_zero, List.getElem_cons_succ, List.setIfInBounds_toArray, List.set_cons_zero, List.set_cons_succ]
            have hHeld := hS
            clear hS
            refine wpAnyF_ready (rs := [7]) (by kernel_rfl) (by simp) ?_
            refine AllReadyF.cons (o := _) rfl (fun K hK => ?_) AllReadyF.nil
            have HK_ := Lib.hid hK
            clear hK
            refine stepAppN 40 35 _ 33 40 Tryd.underlying40 info_entz (show (eV 0 nz).size = 33 from eV_size _ _ rfl) (by omega) (by omega) rfl (.tmp 84) (.tmp 89) (by rfl) (RB + 1) v1 k (cellsE ((es.drop f).take k)) (by rfl) MD1.out.one IB 1 (eL E) (by rfl) (eL_length HEW.out) (fun j hj => by have := range_ent GI1.out j _ (List.getElem?_eq_getElem hj); rwa [Nat.zero_add] at this) (eL_one _) (by omega) MD1.out.size _ rfl ?_
            intro gI cI wX2 hown hgrow hat hlt3
            have BX2 := Lib.hid (show Below (RB + 1) wC wX2 from below_grow BX1.out MD1.out.one hgrow MD1.out.size)
            have MD2 := Lib.hid (MD1.out.app1 hown hgrow hgrow.size)
            clear hown hgrow hat hlt3
            have hS : wX2.rangeAt ba (oa + i * 33) (eL E) ∧ wX2.cell? ⟨RB, 1, none⟩ = some v1 := KS.out _ BX2.out
            clear hHeld
            refine HK_.out _ _ (fun _ => hS) ?_
            clear HK_ K
            try simp only [Act.put, List.getElem_toArray, List.getElem_cons_zero, List.getElem_cons_succ, List.setIfInBounds_toArray, List.set_cons_zero, List.set_cons_succ]
            have hHeld := hS
            clear hS
            have GRF := Lib.hid ((BX2.out.block RB (Nat.lt_succ_self _)).trans GRC.out)
            have cF1 : wX2.cell? ⟨RB, 1, none⟩ = some v1 := (rng_cells GRF.out).2.1
            have fF1 : wX2.frozen? ⟨RB, 1, none⟩ = false := frozen_of_row _ _ _ _ _ GRF.out
            refine wpAnyF_ready (rs := [8]) (by kernel_rfl) (by simp) ?_
            refine AllReadyF.cons (o := _) rfl (fun K hK => ?_) AllReadyF.nil
            have HK_ := Lib.hid hK
            clear hK
            go_simp
            have hS : wX2.rangeAt ba (oa + i * 33) (eL E) ∧ wX2.cell? ⟨RB, 1, none⟩ = some v1 := KS.out _ BX2.out
            clear hHeld
            refine HK_.out _ _ (fun _ => hS) ?_
            clear HK_ K
            try simp only [Act.put, List.getElem_toArray, List.getElem_cons_zero, List.getElem_cons_succ, List.setIfInBounds_toArray, List.set_cons_zero, List.set_cons_succ]
            have hHeld := hS
            clear hS
            refine wpAnyF_ready (rs := [9]) (by kernel_rfl) (by simp) ?_
            refine AllReadyF.cons (o := _) rfl (fun K hK => ?_) AllReadyF.nil
            have HK_ := Lib.hid hK
            clear hK
            go_simp
            obtain ⟨wY, hwY⟩ : ∃ z, z = wX2.setCell ⟨RB, 1, none⟩ (.slice (some ⟨gI, 0, none⟩) (k + 1) cI) := ⟨_, rfl⟩
            rw [← hwY]
            have GRY := Lib.hid (show wY.heap[RB]? = some (.cells #[.int .i64 (f : Int), .slice (some ⟨gI, 0, none⟩) (k + 1) cI, v2] 61 (0, 0)) by rw [hwY]; exact setCell_row GRF.out _)
            have HFAR := Lib.hid (show ∀ g, g ≠ RB → wY.heap[g]? = wX2.heap[g]? from fun g hg => by rw [hwY, setCell_far _ (Ne.symm hg)])
            have BY := Lib.hid (show Below RB w2 wY from HBLC.out.trans ((BX2.out.mono (Nat.le_succ _)).trans (by rw [hwY]; exact (Below.refl RB _).setCell (show RB ≤ (⟨RB, 1, none⟩ : Addr).block from Nat.le_refl RB) _)))
            have HSY := Lib.hid (show RB < wY.heap.size from lt_of_heap GRY.out)
            clear cF1 fF1 hwY hHeld
            refine HK_.out _ _ (fun h => absurd (h 9 rfl) (by decide)) ?_
            clear HK_ K
            try simp only [Act.put, List.getElem_toArray, List.getElem_cons_zero, List.getElem_cons_succ, List.setIfInBounds_toArray, List.set_cons_zero, List.set_cons_succ]
            refine wpAnyF_done (by kernel_rfl) ?_ _
            have MDY := Lib.hid (show Made wY (RB + 1) (.slice (some ⟨gI, 0, none⟩) (k + 1) cI) (k + 1) (cellsE ((es.drop f).take k) ++ eL E) v2 vs (pthF es f k) al ((leavesD es).flatten.map vB) from ⟨own_far MD2.out.one fun g hg => HFAR.out g (by omega), own_far MD2.out.two fun g hg => HFAR.out g (by omega), MD2.out.paths.map fun _ _ hr => hr.other_type GRF.out (by decide) HFAR.out, MD2.out.new.other_type GRF.out (by decide) HFAR.out, HSY.out⟩)
            clear KS MDC MD0 MD1 MD2 GI1 BX0 BX1 BX2 GRF HFAR HO1C HO2C HPTC HLVC HSRC
            have PC := RPath_calls es.length (leavesD es) i (by rw [leavesD_length]; exact Nat.le_refl _) (by rw [leavesD_length]; omega) (by rw [leavesD_length]; exact HLT.out) (leavesD_dig es) al cl 23 (by rw [leavesD_length]; exact CP.out.1) CP.out.2
            rw [leavesD_length] at PC
            have HPC := Lib.hid PC
            have KS := Lib.hid (show ∀ w', Below (RB + 1) wY w' → w'.cell? ⟨RB, 2, none⟩ = some v2 from fun w' hb => (hb.cell (p := ⟨RB, 2, none⟩) (Nat.lt_succ_self _)).trans (rng_cells GRY.out).2.2)
            clear PC
            go_wp2_with fail
            refine wp_region_final_drew F8 (fun w' => w'.cell? ⟨RB, 2, none⟩ = some v2) (by kernel_rfl) (KS.out wY.drew ((Below.refl _ _).drew)) (fun hHeld => ?_)
            obtain ⟨wU0, hwU0⟩ : ∃ z, z = wY.drew := ⟨_, rfl⟩
            have BU0 := Lib.hid (show Below (RB + 1) wY wU0 by rw [hwU0]; exact (Below.refl _ _).drew)
            have MU0 := Lib.hid (MDY.out.map (show Below wY.heap.size wY wU0 by rw [hwU0]; exact (Below.refl _ _).drew))
            rw [← hwU0] at hHeld ⊢
            clear hwU0
            refine wpAnyF_take (fs := [8]) (i := 0) (oi := _) (v := .pointer (some ⟨RB, 2, none⟩)) rfl (by kernel_rfl) (by kernel_rfl) (by kernel_rfl) F8_in rfl (by kernel_rfl) (fun _ _ _ h => h) (Or.inl ⟨by rfl, fun w hw => by go_simp⟩) hHeld ?_
            simp only [Act.put, List.getElem_toArray, List.getElem_cons_zero, List.getElem_cons_succ, List.setIfInBounds_toArray, List.set_cons_zero, List.set_cons_succ]
            refine wpAnyF_take (fs := [8]) (i := 1) (oi := _) (v := v2) rfl (by kernel_rfl) (by kernel_rfl) (by kernel_rfl) F8_in rfl (by kernel_rfl) (fun _ _ _ h => h) (Or.inl ⟨by rfl, fun w hw => by have hc := hw; clear hw; go_simp⟩) hHeld ?_
            simp only [Act.put, List.getElem_toArray, List.getElem_cons_zero, List.getElem_cons_succ, List.setIfInBounds_toArray, List.set_cons_zero, List.set_cons_succ]
            refine wpAnyF_take (fs := [8]) (i := 2) (oi := _) (v := .slice al es.length cl) rfl (by kernel_rfl) (by kernel_rfl) (by kernel_rfl) F8_in rfl (by kernel_rfl) (fun _ _ _ h => h) (Or.inl ⟨by rfl, fun w hw => by go_simp⟩) hHeld ?_
            simp only [Act.put, List.getElem_toArray, List.getElem_cons_zero, List.getElem_cons_succ, List.setIfInBounds_toArray, List.set_cons_zero, List.set_cons_succ]
            refine wpAnyF_take (fs := [8]) (i := 3) (oi := _) (v := .int .i64 (i : Int)) rfl (by kernel_rfl) (by kernel_rfl) (by kernel_rfl) F8_in rfl (by kernel_rfl) (fun _ _ _ h => h) (Or.inl ⟨by rfl, fun w hw => by go_simp⟩) hHeld ?_
            simp only [Act.put, List.getElem_toArray, List.getElem_cons_zero, List.getElem_cons_succ, List.setIfInBounds_toArray, List.set_cons_zero, List.set_cons_succ]
            refine wpAnyF_ready (rs := [4]) (by kernel_rfl) (by simp) ?_
            refine AllReadyF.cons (o := _) rfl (fun K hK => ?_) AllReadyF.nil
            have HK_ := Lib.hid hK
            clear hK
            go_simp
            go_at_call 40
            refine (HPC.out wU0 MU0.out.new).mono ?_
            rintro e wU1 ⟨pa, pc, rfl, hown, hbU⟩
            dsimp only
            have BU1 := Lib.hid (show Below (RB + 1) wY wU1 from BU0.out.trans (hbU.mono MU0.out.size))
            have MU1 := Lib.hid (MU0.out.map hbU)
            have NP1 := Lib.hid (Rd.of_own hown)
            clear hown hbU HPC
            have hS : wU1.cell? ⟨RB, 2, none⟩ = some v2 := KS.out _ BU1.out
            clear hHeld
            refine HK_.out _ _ (fun _ => hS) ?_
            clear HK_ K
            try simp only [Act.put, List.getElem_toArray, List.getElem_cons_zero, List.getElem_cons_succ, List.setIfInBounds_toArray, List.set_cons_zero, List.set_cons_succ]
            have hHeld := hS
            clear hS
            refine wpAnyF_ready (rs := [5]) (by kernel_rfl) (by simp) ?_
            refine AllReadyF.cons (o := _) rfl (fun K hK => ?_) AllReadyF.nil
            have HK_ := Lib.hid hK
            clear hK
            go_simp
            obtain ⟨PB, hPB⟩ : ∃ z, z = wU1.heap.size := ⟨_, rfl⟩
            rw [← hPB]
            obtain ⟨wU2, hwU2⟩ : ∃ z, z = wU1.alloc (.cells #[.slice pa (tlong i es.length) pc] 24) := ⟨_, rfl⟩
            rw [← hwU2]
            have bs : Below wU1.heap.size wU1 wU2 := by rw [hwU2]; exact (Below.refl _ _).alloc (Nat.le_refl _) _
            have BU2 := Lib.hid (show Below (RB + 1) wY wU2 from BU1.out.trans (bs.mono MU1.out.size))
            have MU2 := Lib.hid (MU1.out.map bs)
            have NP2 := Lib.hid (NP1.out.below bs)
            have GP2 := Lib.hid (show wU2.heap[PB]? = some (.cells #[.slice pa (tlong i es.length) pc] 24 (0, 0)) by rw [hwU2, hPB]; exact heap_alloc_new _ _)
            clear hPB hwU2 bs
            have hS : wU2.cell? ⟨RB, 2, none⟩ = some v2 := KS.out _ BU2.out
            clear hHeld
            refine HK_.out _ _ (fun _ => hS) ?_
            clear HK_ K
            try simp only [Act.put, List.getElem_toArray, List.getElem_cons_zero, List.getElem_cons_succ, List.setIfInBounds_toArray, List.set_cons_zero, List.set_cons_succ]
            have hHeld := hS
            clear hS
            refine wpAnyF_ready (rs := [6]) (by kernel_rfl) (by simp) ?_
            refine AllReadyF.cons (o := _) rfl (fun K hK => ?_) AllReadyF.nil
            have HK_ := Lib.hid hK
            clear hK
            refine stepApp1 59 24 _ 24 Tryd.underlying59 info_dgs rfl (by omega) rfl (.tmp 93) (.tmp 97) (by rfl) (RB + 1) v2 vs.length vs (by rfl) MU2.out.two ⟨PB, 0, none⟩ 1 (.slice pa (tlong i es.length) pc) (by rfl) (by rw [cell_of_row _ _ _ _ _ _ GP2.out]; rfl) rfl (by have := HVL.out; omega) MU2.out.size _ rfl ?_
            intro gP cP wU3 hown hgrow hat hlt3
            have BU3 := Lib.hid (show Below (RB + 1) wY wU3 from below_grow BU2.out MU2.out.two hgrow MU2.out.size)
            have MU3 := Lib.hid (MU2.out.app2 (by rw [pthF_length, HVL.out]; exact Nat.le_refl _) hown hgrow hgrow.size)
            have NP3 := Lib.hid (NP2.out.other_app MU2.out.two hgrow dgs_ne_dig)
            clear hown hgrow hat hlt3
            have hS : wU3.cell? ⟨RB, 2, none⟩ = some v2 := KS.out _ BU3.out
            clear hHeld
            refine HK_.out _ _ (fun _ => hS) ?_
            clear HK_ K
            try simp only [Act.put, List.getElem_toArray, List.getElem_cons_zero, List.getElem_cons_succ, List.setIfInBounds_toArray, List.set_cons_zero, List.set_cons_succ]
            have hHeld := hS
            clear hS
            have GRF := Lib.hid ((BU3.out.block RB (Nat.lt_succ_self _)).trans GRY.out)
            have cF1 : wU3.cell? ⟨RB, 2, none⟩ = some v2 := (rng_cells GRF.out).2.2
            have fF1 : wU3.frozen? ⟨RB, 2, none⟩ = false := frozen_of_row _ _ _ _ _ GRF.out
            refine wpAnyF_ready (rs := [7]) (by kernel_rfl) (by simp) ?_
            refine AllReadyF.cons (o := _) rfl (fun K hK => ?_) AllReadyF.nil
            have HK_ := Lib.hid hK
            clear hK
            go_simp
            have hS : wU3.cell? ⟨RB, 2, none⟩ = some v2 := KS.out _ BU3.out
            clear hHeld
            refine HK_.out _ _ (fun _ => hS) ?_
            clear HK_ K
            try simp only [Act.put, List.getElem_toArray, List.getElem_cons_zero, List.getElem_cons_succ, List.setIfInBounds_toArray, List.set_cons_zero, List.set_cons_succ]
            have hHeld := hS
            clear hS
            refine wpAnyF_ready (rs := [8]) (by kernel_rfl) (by simp) ?_
            refine AllReadyF.cons (o := _) rfl (fun K hK => ?_) AllReadyF.nil
            have HK_ := Lib.hid hK
            clear hK
            go_simp
            obtain ⟨wZ, hwZ⟩ : ∃ z, z = wU3.setCell ⟨RB, 2, none⟩ (.slice (some ⟨gP, 0, none⟩) (vs.length + 1) cP) := ⟨_, rfl⟩
            rw [← hwZ]
            have GRZ := Lib.hid (show wZ.heap[RB]? = some (.cells #[.int .i64 (f : Int), .slice (some ⟨gI, 0, none⟩) (k + 1) cI, .slice (some ⟨gP, 0, none⟩) (vs.length + 1) cP] 61 (0, 0)) by rw [hwZ]; exact setCell_row GRF.out _)
            have HFAR := Lib.hid (show ∀ g, g ≠ RB → wZ.heap[g]? = wU3.heap[g]? from fun g hg => by rw [hwZ, setCell_far _ (Ne.symm hg)])
            have BZ := Lib.hid (show Below RB w2 wZ from BY.out.trans ((BU3.out.mono (Nat.le_succ _)).trans (by rw [hwZ]; exact (Below.refl RB _).setCell (show RB ≤ (⟨RB, 2, none⟩ : Addr).block from Nat.le_refl RB) _)))
            have HSZ := Lib.hid (show RB < wZ.heap.size from lt_of_heap GRZ.out)
            clear cF1 fF1 hwZ hHeld
            refine HK_.out _ _ (fun h => absurd (h 8 rfl) (by decide)) ?_
            clear HK_ K
            try simp only [Act.put, List.getElem_toArray, List.getElem_cons_zero, List.getElem_cons_succ, List.setIfInBounds_toArray, List.set_cons_zero, List.set_cons_succ]
            refine wpAnyF_done (by kernel_rfl) ?_ _
            have PTZ := Lib.hid ((show PathsT wU3 (pthF es f k) vs by
              have := MU3.out.paths
              rw [pthF_length, List.take_append_of_le_length (by rw [HVL.out]; exact Nat.le_refl _), List.take_of_length_le (by rw [HVL.out]; exact Nat.le_refl _)] at this
              exact this).snoc (HTD.out) (c := pc) NP3.out |>.map fun _ _ hr => hr.other_type GRF.out (by decide) HFAR.out)
            have O1Z := Lib.hid (own_far MU3.out.one fun g hg => HFAR.out g (by omega))
            have O2Z := Lib.hid (own_far MU3.out.two fun g hg => HFAR.out g (by omega))
            have LVZ := Lib.hid (MU3.out.new.other_type GRF.out (by decide) HFAR.out)
            go_wp2_with fail
            go_roundw
            case rel =>
              refine ⟨q1, k + 1, _, _, vs ++ [.slice pa (tlong i es.length) pc], (f : Int), rfl, Lib.hid (by have := HLT.out; have := HQ1.out; omega), Lib.hid (by have := HKI.out; have := HIT.out; have := HQ1.out; omega), Lib.hid (by rw [if_neg (Nat.succ_ne_zero k)]), GRZ, Lib.hid (by rw [List.length_append, HVL.out]; rfl), Lib.hid ?_, Lib.hid ?_, Lib.hid ?_, LVZ, HSZ, BZ⟩
              · rw [own_one_more HKI.out HLT.out, ← HE.out]; exact O1Z.out
              · have := O2Z.out
                rw [List.length_append, HVL.out] at this
                rw [HVL.out]
                exact this
              · rw [pthF_more es HKI.out]
                have := PTZ.out
                rw [HTL2.out] at this
                exact this
            case measure => simp [intOf]; have := HLT.out; have := HQ1.out; omega
    · have hie : i = es.length := by have := HI.out; omega
      have hk : k = t - f := by have := HK.out; omega
      have hfv : fr = (f : Int) := by
        rw [HFRV.out]
        by_cases h0 : k = 0
        · rw [if_pos h0]
          by_cases he : es.length = 0
          · omega
          · have := find_less HUP.out HAB.out HFR.out HTO.out he
            omega
        · rw [if_neg h0]
      subst hk
      obtain ⟨ia, ic, hv1⟩ := own_slice HO1.out
      obtain ⟨pa, pc, hv2⟩ := own_slice HO2.out
      subst hv1
      subst hv2
      have hrc := HRC.out
      rw [hfv] at hrc
      have HRC2 := Lib.hid hrc
      have y2 : decide ((i : Int) < (es.length : Int)) = false := decide_eq_false (by omega)
      have y3 : decide (i < es.length) = false := decide_eq_false hlt
      have HTL := Lib.hid htl
      have GZA := Lib.hid ((HBL.out.block H (by rw [HRB.out]; omega)).trans GZ2.out)
      clear hlt hfv hie hrc htl hfl HRC
      go_wp2_with (first
        | ((refine wpList_load_row rfl _ (.tmp 7) rfl RB (by rfl) _ _ _ _ HRC2.out Tryd.underlying61 rfl info_rngF ?_); simp only [Act.put, List.setIfInBounds_toArray, List.set_cons_zero, List.set_cons_succ])
        | ((refine wpList_store_row rfl _ (.tmp 6) (.tmp 100) rfl H #[.int .i64 (f : Int), .slice ia (t - f) ic, .slice pa (t - f) pc] (by rfl) (by rfl) _ #[.int .i64 0, .slice none 0 0, .slice none 0 0] GZA.out info_rngF rfl (rng_one _ _ _ rfl rfl rfl) ?_); simp only [Act.put, List.setIfInBounds_toArray, List.set_cons_zero, List.set_cons_succ]))
      try simp only [Exit.inBlock, Exit.then]
      refine bodyPost_ret (v := .agg #[.int .i64 (f : Int), .slice ia (t - f) ic, .slice pa (t - f) pc]) (results_cellW rfl _ _ _ ⟨H, 0, none⟩ _ rfl (rng_load (setRow_heap _ _ _ _ _ _ GZA.out))) rfl ?_
      have hil := itemsF_length (f := f) HTL.out
      have hpl := pathsF_length es f t
      have far : ∀ g, RB + 1 ≤ g → (wA.setRow H #[.int .i64 (f : Int), .slice ia (t - f) ic, .slice pa (t - f) pc]).heap[g]? = wA.heap[g]? := fun g hg => _root_.Go.setRow_other _ _ _ _ (by have := HRB.out; omega)
      refine ⟨⟨ia, ic, pa, pc, vs, by rw [hil, hpl], Rd.of_own (own_far HO1.out far), Rd.of_own (own_far HO2.out far), ?_⟩, ?_⟩
      · exact HPT.out.map fun a xs hr => hr.other_type GZA.out (by decide) fun b hb => _root_.Go.setRow_other _ _ _ _ hb
      · rw [← HH.out]; exact below_setRowW (BL2.out.trans (HBL.out.mono (by rw [HRB.out]; omega))) (Nat.le_refl _) _
end Go.Proofs.YtpeomfehdccmmaaDoor
