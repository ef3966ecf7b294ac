/- Walks of package share: how much each place counts; the value of the polynomial through rows. -/
import Derived.Test.YtppjmonbmlbhpaaLibs
import Derived.Test.YtppjmonbmlbhpaaField
import Derived.Test.YtppjmonbmlbhpaaPoly
import Derived.Deep.RegionHeld3
namespace Go.Proofs.Ytppjmonbmlbhpaa
open Go.RowKit
set_option linter.unusedVariables false

theorem Inv_any (a : UInt8) (w : World) : Calls Try.prog 22 #[.int .u8 a.toNat] w fun e w' => ∃ u, e = .returned (.tuple #[.int .u8 (Gf.inv a).toNat, u]) ∧ w = w' := by
  by_cases h : a = 0
  · subst h
    exact (Inv_calls_no w).mono fun e w' ⟨h1, h2⟩ => ⟨_, h1, h2⟩
  · exact (Inv_calls a h w).mono fun e w' ⟨h1, h2⟩ => ⟨_, h1, h2⟩

theorem weights_snoc (at_ : List UInt8) (x : UInt8) (k : Nat) : (List.range (k + 1)).map (Gf.weight at_ x) = (List.range k).map (Gf.weight at_ x) ++ [Gf.weight at_ x k] := by
  rw [List.range_succ, List.map_append]; rfl

set_option maxHeartbeats 1000000 in
theorem Weights_calls (at_ : List UInt8) (x : UInt8) (a : Option Addr) (ca ea : Nat) (w : World) (ha : Rd w a ea (at_.map vB)) (hx : at_.length ≤ 1000000) :
    Calls Try.prog 15 #[.slice a at_.length ca, .int .u8 x.toNat] w (RetB w (Gf.weights at_ x)) := by
  go_enter Try.func15, Try.ntmps15
  go_wp2
  go_loopw [5, 15] (fun v i wr => ∃ k : Nat, k ≤ at_.length ∧ i = .int .i64 k ∧ wr.ownsRow w.heap.size 5 1 v k (((List.range k).map (Gf.weight at_ x)).map vB) ∧ Below w.heap.size w wr) (fun _ i _ => at_.length - (intOf i).toNat)
  case atStart => exact ⟨0, Nat.zero_le _, rfl, World.ownsRow_nil _ _ _ _, Below.refl _ _⟩
  case round =>
    obtain ⟨k, hk, rfl, hown, hbl⟩ := hrel
    by_cases hlt : k < at_.length
    · obtain ⟨ba, oa, rfl, _, hca⟩ := (ha.below hbl).bytes hlt
      have c1 := hca k hlt
      have hgk : at_.getD k 0 = at_[k] := by rw [List.getD_eq_getElem?_getD, List.getElem?_eq_getElem hlt]; rfl
      have Hg := Lib.hid hgk
      have Hca := Lib.hid hca
      clear hca hgk
      go_wp2
      go_loop [8, 22] (fun p j => ∃ (m : Nat) (q : UInt8), m ≤ at_.length ∧ j = .int .i64 m ∧ p = .int .u8 q.toNat ∧ Gf.wgt at_[k] x k m (at_.drop m) q = Gf.weight at_ x k) (fun _ j => at_.length - (intOf j).toNat)
      case atStart => exact ⟨0, 1, Nat.zero_le _, rfl, rfl, by unfold Gf.weight; rw [Hg.out]; rfl⟩
      case round =>
        obtain ⟨m, q, hm, rfl, rfl, hw⟩ := hrel
        have Hw := Lib.hid hw
        clear hw
        by_cases hml : m < at_.length
        · have c2 := Hca.out m hml
          have hdrop : at_.drop m = at_[m] :: at_.drop (m + 1) := List.drop_eq_getElem_cons hml
          have Hd := Lib.hid hdrop
          clear hdrop
          by_cases hmk : m = k
          · have t : ((m : Int) == (k : Int)) = true := by rw [hmk]; simp
            have Hmk := Lib.hid hmk
            clear hmk
            go_wp2
            go_round
            case rel => exact ⟨m + 1, q, by omega, by go_num, rfl, by have := Hw.out; rw [Hd.out] at this; simp only [Gf.wgt] at this; rw [if_pos Hmk.out] at this; exact this⟩
            case measure => simp [intOf] <;> omega
          · have t : ((m : Int) == (k : Int)) = false := by rw [beq_eq_false_iff_ne]; omega
            have Hmk := Lib.hid hmk
            clear hmk
            go_wp2_with fail
            refine (Add_calls _ _ _).mono ?_; rintro e w' ⟨rfl, rfl⟩
            go_wp2_with fail
            refine (Inv_any _ _).mono ?_; rintro e w' ⟨u, rfl, rfl⟩
            go_wp2_with fail
            refine (Add_calls _ _ _).mono ?_; rintro e w' ⟨rfl, rfl⟩
            go_wp2_with fail
            refine (Mul_calls _ _ _).mono ?_; rintro e w' ⟨rfl, rfl⟩
            go_wp2_with fail
            refine (Mul_calls _ _ _).mono ?_; rintro e w' ⟨rfl, rfl⟩
            go_wp2_with fail
            go_round
            case rel => exact ⟨m + 1, _, by omega, by go_num, rfl, by have := Hw.out; rw [Hd.out] at this; simp only [Gf.wgt] at this; rw [if_neg Hmk.out] at this; exact this⟩
            case measure => simp [intOf] <;> omega
        · obtain rfl : m = at_.length := by omega
          have hq : q = Gf.weight at_ x k := by
            have := Hw.out
            rw [List.drop_of_length_le (Nat.le_refl _)] at this
            exact this
          have Hq := Lib.hid hq
          clear hq Hw
          go_wp2_with (at_builtin; refine app1 29 5 (.int .u8 0) 1 Try.underlying29 info_u8 rfl (by omega) rfl _ _ rfl w.heap.size _ _ _ rfl (hown.alloc _) ⟨wr.heap.size, 0, none⟩ 1 (.int .u8 q.toNat) rfl (by simp) rfl (by omega) (by have := hbl.size; simp; omega) _ rfl ?_; intro g cap w1 hown1 hgrow hat hlt1)
          have hb1 : Below w.heap.size w w1 := (hbl.alloc hbl.size _).grown hgrow (by have := hbl.size; simp; omega) (fun j hj => (hown.lt j hj).1)
          clear hgrow hat hlt1 hown
          go_wp2
          go_roundw
          case rel => exact ⟨k + 1, by omega, by go_num, by rw [weights_snoc, List.map_append, ← Hq.out]; exact hown1, hb1⟩
          case measure => simp [intOf] <;> omega
    · obtain rfl : k = at_.length := by omega
      obtain ⟨a', cap', rfl⟩ := own_slice hown
      go_wp2
      go_ret
      have hl : (Gf.weights at_ x).length = at_.length := Gf.weights_length _ _
      exact ⟨a', cap', by rw [hl]; rfl, by rw [hl]; exact hown, hbl⟩

/-! the polynomials through rows, place by place -/
def thrus (at_ : List UInt8) (rows : List (List UInt8)) (x : UInt8) : List UInt8 := (List.range (rows.headD []).length).map fun k => Gf.thro at_ (rows.map (·.getD k 0)) x
/-- the first i weights times the values of the first i rows at a place -/
def part (ws : List UInt8) (rows : List (List UInt8)) (i k : Nat) : UInt8 := Gf.wsum (ws.take i) ((rows.map (·.getD k 0)).take i)
theorem wsum_snoc : ∀ (ws ys : List UInt8) (w y : UInt8), ws.length = ys.length → Gf.wsum (ws ++ [w]) (ys ++ [y]) = Gf.add (Gf.wsum ws ys) (Gf.mul w y) := by
  intro ws
  induction ws with
  | nil => intro ys w y h; obtain rfl : ys = [] := List.eq_nil_of_length_eq_zero (by simpa using h.symm); simp [Gf.wsum, Gf.add]
  | cons u ws ih =>
    intro ys w y h
    cases ys with
    | nil => simp at h
    | cons v ys =>
      simp only [List.cons_append, Gf.wsum]
      rw [ih ys w y (by simpa using h)]
      unfold Gf.add
      rw [UInt8.xor_assoc]
theorem part_succ (ws : List UInt8) (rows : List (List UInt8)) (i k : Nat) (hw : i < ws.length) (hr : i < rows.length) : part ws rows (i + 1) k = Gf.add (part ws rows i k) (Gf.mul ws[i] (rows[i].getD k 0)) := by
  unfold part
  rw [List.take_succ_eq_append_getElem hw, List.take_succ_eq_append_getElem (by simpa using hr), wsum_snoc _ _ _ _ (by simp; omega)]
  simp
def mixed (ws : List UInt8) (rows : List (List UInt8)) (L i m : Nat) : List UInt8 := (List.range L).map fun q => if q < m then part ws rows (i + 1) q else part ws rows i q
theorem mixed_zero (ws : List UInt8) (rows : List (List UInt8)) (L i : Nat) : mixed ws rows L i 0 = (List.range L).map (part ws rows i) := by simp [mixed]
theorem mixed_all (ws : List UInt8) (rows : List (List UInt8)) (L i : Nat) : mixed ws rows L i L = (List.range L).map (part ws rows (i + 1)) := by
  refine List.map_congr_left fun q hq => ?_
  rw [if_pos (List.mem_range.1 hq)]
theorem mixed_length (ws : List UInt8) (rows : List (List UInt8)) (L i m : Nat) : (mixed ws rows L i m).length = L := by simp [mixed]
theorem mixed_get (ws : List UInt8) (rows : List (List UInt8)) (L i m : Nat) (h : m < (mixed ws rows L i m).length) : (mixed ws rows L i m)[m] = part ws rows i m := by simp [mixed]
theorem mixed_set (ws : List UInt8) (rows : List (List UInt8)) (L i m : Nat) (hm : m < L) : (mixed ws rows L i m).set m (part ws rows (i + 1) m) = mixed ws rows L i (m + 1) := by
  apply List.ext_getElem
  · simp [mixed]
  · intro q h1 h2
    have hq : q < L := by simpa [mixed] using h2
    rw [List.getElem_set]
    by_cases e : m = q
    · subst e; simp [mixed]
    · rw [if_neg e]
      simp only [mixed, List.getElem_map, List.getElem_range]
      by_cases g : q < m
      · rw [if_pos g, if_pos (by omega)]
      · rw [if_neg g, if_neg (by omega)]

theorem mixed_own {w : World} {base g L cap : Nat} {ws : List UInt8} {rows : List (List UInt8)} {k m : Nat} (h : w.ownsRow base 5 1 (.slice (some ⟨g, 0, none⟩) L cap) L ((mixed ws rows L k m).map vB)) (hm : m < L) {z : UInt8} (hz : part ws rows (k + 1) m = z) :
    (w.setCell ⟨g, m, none⟩ (.int .u8 z.toNat)).ownsRow base 5 1 (.slice (some ⟨g, 0, none⟩) L cap) L ((mixed ws rows L k (m + 1)).map vB) := by
  have := own_set h m (.int .u8 z.toNat)
  have e : ((mixed ws rows L k m).map vB).set m (.int .u8 z.toNat) = (mixed ws rows L k (m + 1)).map vB := by
    rw [← mixed_set ws rows L k m hm, hz, List.map_set]; rfl
  rw [e] at this; exact this

set_option maxHeartbeats 4000000 in
theorem Through_calls (at_ : List UInt8) (rows : List (List UInt8)) (x : UInt8) (a b : Option Addr) (ca ea cb eb L : Nat) (vs : List Value) (w : World) (ha : Rd w a ea (at_.map vB)) (hb : Rd w b eb vs) (hv : AreB (fun _ _ => True) w rows vs)
    (h1 : 0 < rows.length) (hal : at_.length = rows.length) (hr : rows.length ≤ 1000) (hL : L ≤ 140737488355328) (hall : ∀ r ∈ rows, r.length = L) :
    Calls Try.prog 9 #[.slice a at_.length ca, .slice b rows.length cb, .int .u8 x.toNat] w (RetB w (thrus at_ rows x)) := by
  have hhead : (rows.headD []).length = L := by
    cases rows with
    | nil => simp at h1
    | cons r rs => exact hall r (List.mem_cons_self ..)
  have hth : thrus at_ rows x = (List.range L).map (part (Gf.weights at_ x) rows rows.length) := by
    unfold thrus
    rw [hhead]
    refine List.map_congr_left fun k _ => ?_
    unfold Gf.thro part
    rw [List.take_of_length_le (by rw [Gf.weights_length]; omega), List.take_of_length_le (by simp)]
  have hvl : vs.length = rows.length := hv.1
  obtain ⟨i0, hi0, hz0, hs0, hb0⟩ := info_parts info_u8
  obtain ⟨ws, hws⟩ : ∃ ws, ws = Gf.weights at_ x := ⟨_, rfl⟩
  have hwl : ws.length = at_.length := by rw [hws, Gf.weights_length]
  have WC := fun w ha => Weights_calls at_ x a ca ea w ha (by omega)
  rw [← hws] at hth WC
  have Hth := Lib.hid hth
  have Hal := Lib.hid hal
  have Hvl := Lib.hid hvl
  have Hwl := Lib.hid hwl
  have hwr1 : ws.length ≤ rows.length := by omega
  have hwr2 : rows.length ≤ ws.length := by omega
  clear hth hal hvl hwl hws hhead
  obtain ⟨bb, ob, rfl, hbb, hcb⟩ := hb.cell (k := 0) (by rw [Hvl.out]; exact h1)
  have row : ∀ i, (h : i < rows.length) → ∃ a' c' e', vs[i]'(by rw [Hvl.out]; exact h) = .slice a' L c' ∧ Rd w a' e' (rows[i].map vB) := by
    intro i h
    obtain ⟨a', c', e', h2, h3, _⟩ := hv.2 i h (by rw [Hvl.out]; exact h)
    exact ⟨a', c', e', by rw [h2, hall _ (List.getElem_mem _)], h3⟩
  obtain ⟨a0, c0, e0, hv0, _⟩ := row 0 h1
  have hc0 : w.cell? ⟨bb, ob, none⟩ = some (.slice a0 L c0) := by have := hcb 0 (by rw [Hvl.out]; exact h1); rw [hv0] at this; exact this
  have Hv0 := Lib.hid hv0
  clear hv0
  have i1 : (0 : Int) < (rows.length : Int) := by omega
  go_enter Try.func9, Try.ntmps9
  go_wp2_with fail
  refine (WC _ ha).mono ?_; rintro e w1 ⟨a1, cap1, rfl, hown1, hbl1⟩
  clear WC
  have hc0' : w1.cell? ⟨bb, ob, none⟩ = some (.slice a0 L c0) := (hbl1.cell (p := ⟨bb, ob, none⟩) hbb).trans hc0
  clear hc0
  go_wp2_with (at_make; refine wpList_make_full _ rfl _ _ 29 rfl w.heap.size 5 i0 (.int .u8 0) 1 Try.underlying29 hi0 hz0 hs0 _ _ _ _ L rfl rfl rfl rfl ?c1 ?c2 ?c3 ?_)
  case c1 => rw [hb0]; omega
  case c2 => simp only [maxLen]; omega
  case c3 => exact hbl1.size
  intro w2 hown2 hgrow2
  rw [made_one] at hown2
  have hbl2 : Below w1.heap.size w1 w2 := (Below.refl _ w1).grown hgrow2 (Nat.le_refl _) (fun k hk => by cases hk)
  clear hgrow2
  have hrep : List.replicate L (Value.int .u8 0) = ((List.range L).map (part ws rows 0)).map vB := by
    apply List.ext_getElem
    · simp
    · intro i _ _; simp [part, Gf.wsum, vB]
  rw [hrep] at hown2
  clear hrep
  go_wp2
  go_loopw [23] (fun i wr => ∃ k : Nat, k ≤ rows.length ∧ i = .int .i64 k ∧ wr.ownsRow w.heap.size 5 1 (.slice (some ⟨w1.heap.size, 0, none⟩) L L) L (((List.range L).map (part ws rows k)).map vB) ∧ Below w1.heap.size w1 wr) (fun i _ => rows.length - (intOf i).toNat)
  case atStart => exact ⟨0, Nat.zero_le _, rfl, hown2, hbl2⟩
  case round =>
    obtain ⟨k, hk, rfl, hown, hbl⟩ := hrel
    by_cases hlt : k < rows.length
    · obtain ⟨ak, ck, ek, hvk, hrk⟩ := row k hlt
      have hck : wr.cell? ⟨bb, ob + k, none⟩ = some (.slice ak L ck) := by
        have h2 := hcb k (by rw [Hvl.out]; exact hlt)
        rw [hvk] at h2
        exact (hbl.cell (p := ⟨bb, ob + k, none⟩) (by have := hbl1.size; show bb < _; omega)).trans ((hbl1.cell (p := ⟨bb, ob + k, none⟩) hbb).trans h2)
      have Hvk := Lib.hid hvk
      clear hvk
      have hrkl : rows[k].length = L := hall _ (List.getElem_mem _)
      have Hrkl := Lib.hid hrkl
      clear hrkl
      have hrk1 : Rd w1 ak ek (rows[k].map vB) := hrk.below hbl1
      have hrw1 : Rd w1 a1 5 (ws.map vB) := Rd.of_own hown1
      go_wp2
      obtain ⟨wo, rfl⟩ : ∃ wo : World, wo = wr := ⟨_, rfl⟩
      go_loopw [30] (fun i wr => ∃ m : Nat, m ≤ L ∧ i = .int .i64 m ∧ wr.ownsRow w.heap.size 5 1 (.slice (some ⟨w1.heap.size, 0, none⟩) L L) L ((mixed ws rows L k m).map vB) ∧ Below w1.heap.size w1 wr) (fun i _ => L - (intOf i).toNat)
      case atStart => exact ⟨0, Nat.zero_le _, rfl, by rw [mixed_zero]; exact hown, hbl⟩
      case round =>
        obtain ⟨m, hm, rfl, hownm, hblm⟩ := hrel
        by_cases hml : m < L
        · obtain ⟨bk, ok, rfl, hbk, hcx⟩ := hrk1.bytes (k := m) (by rw [Hrkl.out]; exact hml)
          obtain ⟨bw, ow, rfl, hbw, hcw⟩ := hrw1.bytes (k := k) (by omega)
          have d1 : wr.cell? ⟨bk, ok + m, none⟩ = some (.int .u8 ((rows[k]'hlt)[m]'(by rw [Hrkl.out]; exact hml)).toNat) := (hblm.cell (p := ⟨bk, ok + m, none⟩) hbk).trans (hcx m (by rw [Hrkl.out]; exact hml))
          have d2 : wr.cell? ⟨bw, ow + k, none⟩ = some (.int .u8 (ws[k]'(by omega)).toNat) := (hblm.cell (p := ⟨bw, ow + k, none⟩) hbw).trans (hcw k (by omega))
          have ho := own_cell hownm (k := m) (by simp [mixed_length]; exact hml)
          have d3 : wr.cell? ⟨w1.heap.size, m, none⟩ = some (.int .u8 (part ws rows k m).toNat) := by
            rw [ho.1]; simp only [List.getElem_map, mixed_get]; rfl
          have d4 := ho.2
          have hnew : part ws rows (k + 1) m = Gf.add (part ws rows k m) (Gf.mul (ws[k]'(by omega)) ((rows[k]'hlt)[m]'(by rw [Hrkl.out]; exact hml))) := by
            rw [part_succ ws rows k m (by omega) hlt]
            have e9 : (rows[k]'hlt).getD m 0 = (rows[k]'hlt)[m]'(by rw [Hrkl.out]; exact hml) := by rw [List.getD_eq_getElem?_getD, List.getElem?_eq_getElem (by rw [Hrkl.out]; exact hml)]; rfl
            rw [e9]
          have Hnew := Lib.hid hnew
          clear hnew ho hcx hcw
          generalize (rows[k]'hlt)[m]'(by rw [Hrkl.out]; exact hml) = y at *
          generalize ws[k]'(by omega) = u at *
          generalize part ws rows k m = p at *
          have j1 : (m : Int) < (L : Int) := by omega
          have j2 : (k : Int) < (ws.length : Int) := by omega
          have j0 : (0 : Int) ≤ (m : Int) := by omega
          have j3 : (0 : Int) ≤ (k : Int) := by omega
          go_wp2_with fail
          go_region_with (first | (go_at_call 17; refine (Mul_calls _ _ _).mono ?_; rintro e w' ⟨rfl, rfl⟩) | (go_at_call 16; refine (Add_calls _ _ _).mono ?_; rintro e w' ⟨rfl, rfl⟩))
          all_goals
            go_wp2
            go_roundw
          all_goals first
            | exact ⟨m + 1, by omega, by go_num, (mixed_own hownm hml Hnew.out).drew, (hblm.setCell (p := ⟨w1.heap.size, m, none⟩) (Nat.le_refl _) _).drew⟩
            | (simp [intOf] <;> omega)
        · obtain rfl : m = L := by omega
          rw [mixed_all] at hownm
          go_wp2
          go_roundw
          case rel => exact ⟨k + 1, by omega, by go_num, hownm, hblm⟩
          case measure => simp [intOf] <;> omega
    · obtain rfl : k = rows.length := by omega
      go_wp2
      go_ret
      rw [Hth.out]
      have hl : ((List.range L).map (part ws rows rows.length)).length = L := by simp
      exact ⟨_, L, by rw [hl]; rfl, by rw [hl]; exact hown, (hbl1.trans (hbl.mono hbl1.size))⟩
end Go.Proofs.Ytppjmonbmlbhpaa
