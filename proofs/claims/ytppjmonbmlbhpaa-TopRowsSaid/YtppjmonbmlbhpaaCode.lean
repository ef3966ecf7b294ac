/- Walks: are two lists of lists the same; rows that are spread to more. -/
import Derived.Test.YtppjmonbmlbhpaaShare
namespace Go.Proofs.Ytppjmonbmlbhpaa
open Go.RowKit
set_option linter.unusedVariables false

theorem info_bs : (Try.prog.info? 29).map (fun i => (i.zero, i.size, i.bytes)) = some (some (.slice none 0 0), 1, 24) := by kernel_rfl

def ats (k : Nat) : List UInt8 := (List.range k).map UInt8.ofNat
theorem ats_length (k : Nat) : (ats k).length = k := by simp [ats]
theorem ats_succ (k : Nat) : ats (k + 1) = ats k ++ [UInt8.ofNat k] := by simp [ats, List.range_succ]
theorem byte_lit {k : Nat} (h : k < 256) : (Value.int .u8 (k : Int)) = vB (UInt8.ofNat k) := by
  have : (UInt8.ofNat k).toNat = k := by simp; omega
  simp only [vB, this]
def spreadOf (rows : List (List UInt8)) (n : Nat) : List (List UInt8) := rows ++ (List.range (n - rows.length)).map fun j => thrus (ats rows.length) rows (UInt8.ofNat (rows.length + j))
theorem spreadOf_length (rows : List (List UInt8)) (n : Nat) (h : rows.length ≤ n) : (spreadOf rows n).length = n := by simp [spreadOf]; omega
theorem spreadOf_take (rows : List (List UInt8)) (n k : Nat) (h1 : rows.length ≤ k) (h2 : k < n) : (spreadOf rows n).take (k + 1) = (spreadOf rows n).take k ++ [thrus (ats rows.length) rows (UInt8.ofNat k)] := by
  have hl := spreadOf_length rows n (by omega)
  rw [List.take_succ_eq_append_getElem (by omega)]
  congr 2
  unfold spreadOf
  rw [List.getElem_append_right h1]
  simp only [List.getElem_map, List.getElem_range]
  congr 2; omega

def SpreadPost (w : World) (rows : List (List UInt8)) (n L : Nat) (e : Ending) (w' : World) : Prop :=
  Below w.heap.size w w' ∧ (((∀ r ∈ rows, r.length = L) ∧ ∃ a cap vs, e = .returned (.tuple #[.slice a n cap, .nilIface]) ∧ Rd w' a 29 vs ∧ AreB (fun b e => e = 5 ∧ w.heap.size ≤ b) w' (spreadOf rows n) vs) ∨
    ((∃ r ∈ rows, r.length ≠ L) ∧ e = .returned (.tuple #[.slice none 0 0, .iface 43 (.int .i64 3)])))

theorem Through_at (at_ : List UInt8) (rows : List (List UInt8)) (x : UInt8) (y : Int) (hy : y = x.toNat) (a b : Option Addr) (ca ea cb eb L n : Nat) (vs : List Value) (w : World) (ha : Rd w a ea (at_.map vB)) (hb : Rd w b eb vs) (hv : AreB (fun _ _ => True) w rows vs)
    (hn : n = at_.length) (h1 : 0 < rows.length) (hal : at_.length = rows.length) (hr : rows.length ≤ 1000) (hL : L ≤ 140737488355328) (hall : ∀ r ∈ rows, r.length = L) :
    Calls Try.prog 9 #[.slice a n ca, .slice b rows.length cb, .int .u8 y] w (RetB w (thrus at_ rows x)) := by
  subst hy hn; exact Through_calls at_ rows x a b ca ea cb eb L vs w ha hb hv h1 hal hr hL hall

theorem thrus_length (at_ : List UInt8) (rows : List (List UInt8)) (x : UInt8) : (thrus at_ rows x).length = (rows.headD []).length := by simp [thrus]

set_option maxHeartbeats 4000000 in
theorem Spread_calls (rows : List (List UInt8)) (n L : Nat) (b : Option Addr) (cb eb : Nat) (vs : List Value) (w : World) (hb : Rd w b eb vs) (hv : AreB (fun _ _ => True) w rows vs)
    (h1 : 0 < rows.length) (h2 : rows.length ≤ n) (h3 : n ≤ 20) (hh : (rows.headD []).length = L) (hL : L ≤ 100) :
    Calls Try.prog 4 #[.slice b rows.length cb, .int .i64 n] w (SpreadPost w rows n L) := by
  have hvl : vs.length = rows.length := hv.1
  have Hvl := Lib.hid hvl
  clear hvl
  have v1 : rows.length ≤ vs.length := by rw [Hvl.out]; omega
  obtain ⟨bb, ob, rfl, hbb, hcb⟩ := hb.cell (k := 0) (by omega)
  have row : ∀ i, (h : i < rows.length) → ∃ a' c' e', vs[i]'(by omega) = .slice a' rows[i].length c' ∧ Rd w a' e' (rows[i].map vB) := by
    intro i h
    obtain ⟨a', c', e', h2, h3, _⟩ := hv.2 i h (by omega)
    exact ⟨a', c', e', h2, h3⟩
  have h0L : rows[0].length = L := by rw [← hh]; cases rows with | nil => simp at h1 | cons r rs => rfl
  obtain ⟨a0, c0, e0, hv0, _⟩ := row 0 h1
  rw [h0L] at hv0
  have hc0 : w.cell? ⟨bb, ob, none⟩ = some (.slice a0 L c0) := by have := hcb 0 (by omega); rw [hv0] at this; exact this
  have H0 := Lib.hid hv0
  have Hh := Lib.hid hh
  have H0L := Lib.hid h0L
  clear hv0 hh h0L
  have i1 : (0 : Int) < (rows.length : Int) := by omega
  have q4 : decide ((rows.length : Int) < 1) = false := by rw [decide_eq_false]; omega
  have q1 : decide (n < rows.length) = false := by rw [decide_eq_false]; omega
  have q2 : decide ((20 : Int) < (n : Int)) = false := by rw [decide_eq_false]; omega
  have q3 : decide ((100 : Int) < (L : Int)) = false := by rw [decide_eq_false]; omega
  go_enter Try.func4, Try.ntmps4
  go_wp2
  go_loopw [6, 7, 33] (fun v6 v7 i wr => ∃ k : Nat, k ≤ rows.length ∧ i = .int .i64 k ∧ wr.ownsRow w.heap.size 5 1 v6 k ((ats k).map vB) ∧ (∃ us, wr.ownsRow w.heap.size 29 1 v7 k us ∧ AreB (fun b e => (e = 5 ∧ w.heap.size ≤ b) ∧ some b ≠ v6.ownBlock) wr (rows.take k) us) ∧ Below w.heap.size w wr ∧ ∀ r ∈ rows.take k, r.length = L) (fun _ _ i _ => rows.length - (intOf i).toNat)
  case atStart => exact ⟨0, Nat.zero_le _, rfl, World.ownsRow_nil _ _ _ _, ⟨[], World.ownsRow_nil _ _ _ _, AreB.nil⟩, Below.refl _ _, by simp⟩
  case round =>
    obtain ⟨k, hk, rfl, hown6, ⟨us, hown7, hA⟩, hbl, hlen⟩ := hrel
    have Hlen := Lib.hid hlen
    clear hlen
    by_cases hlt : k < rows.length
    · obtain ⟨ak, ck, ek, hvk, hrk⟩ := row k hlt
      have hck : wr.cell? ⟨bb, ob + k, none⟩ = some (.slice ak rows[k].length ck) := by
        have h2 := hcb k (by omega)
        rw [hvk] at h2
        exact (hbl.cell (p := ⟨bb, ob + k, none⟩) hbb).trans h2
      have hc0' : wr.cell? ⟨bb, ob, none⟩ = some (.slice a0 L c0) := (hbl.cell (p := ⟨bb, ob, none⟩) hbb).trans hc0
      have Hvk := Lib.hid hvk
      clear hvk hc0
      by_cases hkl : rows[k].length = L
      · have hsz := hbl.size
        have CC := fun (w : World) (hh : Rd w ak ek ((rows[k]'hlt).map vB)) => Clone_calls (rows[k]'hlt) ak ck ek w hh (by rw [hkl]; omega)
        rw [hkl] at hck CC
        have t : ((L : Int) != (L : Int)) = false := by simp
        have Hkl := Lib.hid hkl
        clear hkl
        go_wp2_with (at_builtin; refine app1 29 5 (.int .u8 0) 1 Try.underlying29 info_u8 rfl (by omega) rfl _ _ rfl w.heap.size _ k ((ats k).map vB) rfl (hown6.alloc _) ⟨wr.heap.size, 0, none⟩ 1 (.int .u8 (k : Int)) rfl (by simp) rfl (by omega) (by simp; omega) _ rfl ?_; intro g cap w1 hown61 hgrow1 hat1 hlt1)
        have hbl1 : Below w.heap.size w w1 := (hbl.alloc hsz _).grown hgrow1 (by simp; omega) (fun j hj => (hown6.lt j hj).1)
        have hA1 := (hA.alloc (.cells #[.int .u8 (k : Int)] 5)).other_app (hown6.alloc _) hgrow1 hat1 (by simp)
        have hown71 := own_kept_other (hown7.alloc (.cells #[.int .u8 (k : Int)] 5)) (hown6.alloc _) (by decide) hgrow1
        have hs1 := hbl1.size
        clear hgrow1 hat1 hA hown7 hown6 hck hc0'
        refine (CC _ (hrk.below hbl1)).mono ?_; rintro e w2 ⟨a2, cap2, rfl, hown2, hbl2⟩
        clear CC
        have hs2 := hbl2.size
        go_wp2_with (at_builtin; refine app1 24 29 (.slice none 0 0) 24 Try.underlying24 info_bs rfl (by omega) rfl _ _ rfl w.heap.size _ k us rfl ((own_below hown71 hbl2).alloc _) ⟨w2.heap.size, 0, none⟩ 1 (.slice a2 (rows[k]'hlt).length cap2) rfl (by simp) rfl (by omega) (by simp; omega) _ rfl ?_; intro g3 cap3 w3 hown73 hgrow3 hat3 hlt3)
        have hbl3 : Below w.heap.size w w3 := ((hbl1.trans (hbl2.mono hs1)).alloc (by omega) _).grown hgrow3 (by simp; omega) (fun j hj => (hown71.lt j hj).1)
        have hown63 := own_kept_other ((own_below hown61 hbl2).alloc (.cells #[.slice a2 (rows[k]'hlt).length cap2] 29)) ((own_below hown71 hbl2).alloc _) (by decide) hgrow3
        have hnew : IsB (fun b e => (e = 5 ∧ w.heap.size ≤ b) ∧ some b ≠ some g) w2 rows[k] (.slice a2 (rows[k]'hlt).length cap2) := (IsB.of_own hown2).mono fun b e _ h => ⟨⟨h.1, by omega⟩, by simp only [ne_eq, Option.some.injEq]; omega⟩
        have hA3 := ((hA1.below hbl2).alloc (.cells #[.slice a2 (rows[k]'hlt).length cap2] 29)).push (hnew.alloc _) ((own_below hown71 hbl2).alloc _) hgrow3 (fun _ e' _ h => by rw [h.1.1]; decide)
        clear hgrow3 hat3 hnew hown2 hown71 hA1 hown61
        go_wp2
        go_roundw
        case rel =>
          refine ⟨k + 1, by omega, by go_num, ?_, ⟨_, hown73, ?_⟩, hbl3, ?_⟩
          · rw [ats_succ, List.map_append]
            rw [byte_lit (by omega)] at hown63
            exact hown63
          · rw [List.take_succ_eq_append_getElem hlt]; exact hA3
          · intro r hr
            rw [List.take_succ_eq_append_getElem hlt] at hr
            rcases List.mem_append.1 hr with h | h
            · exact Hlen.out r h
            · rw [List.mem_singleton.1 h]; exact Hkl.out
        case measure => simp [intOf] <;> omega
      · have t : (((rows[k]'hlt).length : Int) != (L : Int)) = true := by rw [bne_iff_ne]; omega
        have Hkl := Lib.hid hkl
        clear hkl
        go_wp2
        go_ret2
        exact ⟨hbl, .inr ⟨⟨rows[k], List.getElem_mem _, Hkl.out⟩, rfl⟩⟩
    · obtain rfl : k = rows.length := by omega
      obtain ⟨a6, cap6, rfl⟩ := own_slice hown6
      have hr6 : Rd wr a6 5 ((ats rows.length).map vB) := Rd.of_own hown6
      have hA' : AreB (fun b e => e = 5 ∧ w.heap.size ≤ b) wr ((spreadOf rows n).take rows.length) us := by
        have e1 : (spreadOf rows n).take rows.length = rows.take rows.length := by simp [spreadOf]
        rw [e1]; exact hA.mono fun b e _ h => h.1
      have hall : ∀ r ∈ rows, r.length = L := by have := Hlen.out; rwa [List.take_of_length_le (Nat.le_refl _)] at this
      have Hall := Lib.hid hall
      clear hall hA Hlen hown6
      go_wp2
      obtain ⟨wo, rfl⟩ : ∃ wo : World, wo = wr := ⟨_, rfl⟩
      go_loopw [7, 10] (fun v7 i wr => ∃ k : Nat, rows.length ≤ k ∧ k ≤ n ∧ i = .int .i64 k ∧ (∃ us, wr.ownsRow w.heap.size 29 1 v7 k us ∧ AreB (fun b e => e = 5 ∧ w.heap.size ≤ b) wr ((spreadOf rows n).take k) us) ∧ Rd wr a6 5 ((ats rows.length).map vB) ∧ Below w.heap.size w wr) (fun _ i _ => n - (intOf i).toNat)
      case atStart => exact ⟨rows.length, Nat.le_refl _, h2, rfl, ⟨us, hown7, hA'⟩, hr6, hbl⟩
      case round =>
        clear hown7 hA' hr6 hbl
        obtain ⟨k, hk1, hk2, rfl, ⟨us, hown7, hA⟩, hr6, hbl⟩ := hrel
        have hs := hbl.size
        by_cases hlt : k < n
        · have hy : (k : Int) = ((UInt8.ofNat k).toNat : Int) := by simp; omega
          have TC := Through_at (ats rows.length) rows (UInt8.ofNat k) k hy a6 (some ⟨bb, ob, none⟩) cap6 5 cb eb L rows.length vs wr hr6 (hb.below hbl) (hv.below hbl) (ats_length _).symm h1 (ats_length _) (by omega) (by omega) Hall.out
          have htl : (thrus (ats rows.length) rows (UInt8.ofNat k)).length = L := by rw [thrus_length]; exact Hh.out
          obtain ⟨new, hnew⟩ : ∃ x, x = thrus (ats rows.length) rows (UInt8.ofNat k) := ⟨_, rfl⟩
          rw [← hnew] at TC htl
          have Hnew := Lib.hid hnew
          have Htl := Lib.hid htl
          clear hnew htl hy
          go_wp2_with fail
          refine TC.mono ?_; rintro e w2 ⟨a2, cap2, rfl, hown2, hbl2⟩
          clear TC
          have hs2 := hbl2.size
          go_wp2_with (at_builtin; refine app1 24 29 (.slice none 0 0) 24 Try.underlying24 info_bs rfl (by omega) rfl _ _ rfl w.heap.size _ k us rfl ((own_below hown7 hbl2).alloc _) ⟨w2.heap.size, 0, none⟩ 1 (.slice a2 new.length cap2) rfl (by simp) rfl (by omega) (by simp; omega) _ rfl ?_; intro g3 cap3 w3 hown73 hgrow3 hat3 hlt3)
          have hbl3 : Below w.heap.size w w3 := ((hbl.trans (hbl2.mono hs)).alloc (by omega) _).grown hgrow3 (by simp; omega) (fun j hj => (hown7.lt j hj).1)
          have hin : IsB (fun b e => e = 5 ∧ w.heap.size ≤ b) w2 new (.slice a2 new.length cap2) := (IsB.of_own hown2).mono fun b e _ h => ⟨h.1, by omega⟩
          have hA3 := ((hA.below hbl2).alloc (.cells #[.slice a2 new.length cap2] 29)).push (hin.alloc _) ((own_below hown7 hbl2).alloc _) hgrow3 (fun _ e' _ h => by rw [h.1]; decide)
          have hr3 := ((hr6.below hbl2).alloc (.cells #[.slice a2 new.length cap2] 29)).other_app ((own_below hown7 hbl2).alloc _) hgrow3 (by decide)
          clear hgrow3 hat3 hin hown2 hown7 hA hr6
          go_wp2
          go_roundw
          case rel => exact ⟨k + 1, by omega, by omega, by go_num, ⟨_, hown73, by rw [spreadOf_take rows n k hk1 hlt, ← Hnew.out]; exact hA3⟩, hr3, hbl3⟩
          case measure => simp [intOf] <;> omega
        · obtain rfl : k = n := by omega
          obtain ⟨a7, cap7, rfl⟩ := own_slice hown7
          rw [List.take_of_length_le (by rw [spreadOf_length rows k hk1]; omega)] at hA
          go_wp2
          go_ret2
          exact ⟨hbl, .inl ⟨Hall.out, a7, cap7, us, rfl, Rd.of_own hown7, hA⟩⟩
end Go.Proofs.Ytppjmonbmlbhpaa
