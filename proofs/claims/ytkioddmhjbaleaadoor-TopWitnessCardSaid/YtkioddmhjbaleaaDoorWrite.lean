/- Walk: note.Write tells a note's bytes. -/
import Derived.Test.YtkioddmhjbaleaaDoorRec
import Derived.Test.YtkioddmhjbaleaaDoorNamed
import Derived.Test.YtkioddmhjbaleaaDoorPut
import Derived.Test.YtkioddmhjbaleaaDoorConcat
import Derived.Laws.IdiomStrings
import Derived.Deep.RegionHeld3
namespace Go.Proofs.YtkioddmhjbaleaaDoor
open Go.RowKit
set_option linter.unusedVariables false
set_option linter.unusedSimpArgs false

def noteB (s : ByteArray) (key : List UInt8) (t : Nat) : List UInt8 := [[UInt8.ofNat s.size], sb s, key, be4 t].flatten

theorem bytesRow_Rd (W : World) (s : ByteArray) (c : Nat) (e : TypeId) (fr : Nat × Nat) : Rd (W.alloc (.cells (bytesRow s c) e fr)) (some ⟨W.heap.size, 0, none⟩) e ((sb s).map vB) := by
  refine .inr ⟨W.heap.size, 0, bytesRow s c, fr, rfl, heap_alloc_new W _, fun i hi => ?_⟩
  have hi2 : i < s.data.size := by simpa [sb] using hi
  unfold bytesRow
  rw [Nat.zero_add, Array.getElem?_append_left (by simpa using hi2)]
  simp [sb, vB]
  exact ⟨s.data[i], Array.getElem?_eq_getElem hi2, rfl⟩
theorem noteB_length (s : ByteArray) (key : List UInt8) (t : Nat) (h : key.length = 32) : (noteB s key t).length = s.size + 37 := by
  simp [noteB, sb_length, be4_length, h]
def WriteOk (w : World) (s : ByteArray) (key : List UInt8) (t : Int) (e : Ending) (w' : World) : Prop :=
  ∃ a cap, e = .returned (.slice a (noteB s key t.toNat).length cap) ∧ w'.ownsRow w.heap.size 5 1 (.slice a (noteB s key t.toNat).length cap) (noteB s key t.toNat).length ((noteB s key t.toNat).map vB) ∧ Below w.heap.size w w'
/-- the rows of a note, appended -/
theorem rows_calls (s : ByteArray) (key : List UInt8) (t : Nat) (hk : key.length = 32) (hs0 : 0 < s.size) (hs : s.size ≤ 30) (w W : World) (hb : Below w.heap.size w W) (ap aq ak at_ : Option Addr) (cp cq ck ct ep eq ek et : Nat)
    (r1 : Rd W ap ep [vB (UInt8.ofNat s.size)]) (r2 : Rd W aq eq ((sb s).map vB)) (r3 : Rd W ak ek (key.map vB)) (r4 : Rd W at_ et ((be4 t).map vB)) :
    Calls Tryd.prog 67 #[.slice (some ⟨W.heap.size, 0, none⟩) 4 4] (W.alloc (.cells #[.slice ap 1 cp, .slice aq s.size cq, .slice ak 32 ck, .slice at_ 4 ct] 67)) (WriteOk w s key t) := by
  have hr := Rd.new W #[.slice ap 1 cp, .slice aq s.size cq, .slice ak 32 ck, .slice at_ 4 ct] 67
  have hv : AreB (fun _ _ => True) (W.alloc (.cells #[.slice ap 1 cp, .slice aq s.size cq, .slice ak 32 ck, .slice at_ 4 ct] 67)) [[UInt8.ofNat s.size], sb s, key, be4 t] [.slice ap 1 cp, .slice aq s.size cq, .slice ak 32 ck, .slice at_ 4 ct] := by
    refine ⟨rfl, fun i h h' => ?_⟩
    have hi : i = 0 ∨ i = 1 ∨ i = 2 ∨ i = 3 := by simp at h; omega
    rcases hi with rfl | rfl | rfl | rfl
    · exact ⟨ap, cp, ep, rfl, r1.alloc _, fun _ _ _ => trivial, by simp⟩
    · exact ⟨aq, cq, eq, by simp [sb_length], r2.alloc _, fun _ _ _ => trivial, by show (sb s).length ≤ 9223372036854775807; rw [sb_length]; omega⟩
    · exact ⟨ak, ck, ek, by simp [hk], r3.alloc _, fun _ _ _ => trivial, by simp [hk]⟩
    · exact ⟨at_, ct, et, by simp [be4_length], r4.alloc _, fun _ _ _ => trivial, by simp [be4_length]⟩
  have hne : ∀ r ∈ [[UInt8.ofNat s.size], sb s, key, be4 t], r ≠ [] := by
    intro r hr e
    have hl := congrArg List.length e
    simp only [List.mem_cons, List.not_mem_nil, or_false] at hr
    rcases hr with rfl | rfl | rfl | rfl
    · simp at hl
    · rw [sb_length] at hl
      have h7 : s.size = 0 := hl
      omega
    · rw [hk] at hl; simp at hl
    · rw [be4_length] at hl; simp at hl
  have hfl : [[UInt8.ofNat s.size], sb s, key, be4 t].flatten.length ≤ 140737488355328 := by
    have := noteB_length s key t hk
    unfold noteB at this
    exact Nat.le_trans (Nat.le_of_eq this) (by omega)
  refine (Concat_calls _ _ 4 _ _ _ hr hv (by simp) hne hfl).mono ?_
  rintro e w' ⟨a, cap, he, hown, hbl⟩
  have hsz := hb.size
  refine ⟨a, cap, he, own_base hown (by simp; omega), (hb.alloc hsz _).trans (hbl.mono (by simp; omega))⟩
def WritePost (w : World) (s : ByteArray) (key : List UInt8) (t : Int) (e : Ending) (w' : World) : Prop :=
  Below w.heap.size w w' ∧ ((named s = true ∧ 0 ≤ t ∧ t < 4294967296 ∧ ∃ a cap, e = .returned (.tuple #[.slice a (s.size + 37) cap, .nilIface]) ∧ w'.ownsRow w.heap.size 5 1 (.slice a (s.size + 37) cap) (s.size + 37) ((noteB s key t.toNat).map vB)) ∨
    ((named s = false ∨ t < 0 ∨ 4294967296 ≤ t) ∧ ∃ c, e = .returned (.tuple #[.slice none 0 0, .iface 41 (.int .i64 c)])))
theorem named_size {s : ByteArray} (h : named s = true) : 0 < s.size ∧ s.size ≤ 30 := by
  unfold named at h
  simp only [Bool.and_eq_true, Bool.not_eq_true', decide_eq_true_eq, beq_eq_false_iff_ne, ne_eq] at h
  refine ⟨?_, h.1.2⟩
  rcases Nat.eq_zero_or_pos s.size with h0 | h0
  · exfalso
    apply h.1.1
    have : s = ⟨#[]⟩ := by
      cases s with
      | mk d =>
        have : d.size = 0 := h0
        rw [Array.size_eq_zero_iff.1 this]
    rw [this]
    decide +kernel
  · exact h0

set_option maxRecDepth 20000 in
set_option maxHeartbeats 4000000 in
theorem Write_calls (s : ByteArray) (key : List UInt8) (t : Int) (hk : key.length = 32) (hs : s.size ≤ 9223372036854775807) (ht : -9223372036854775808 ≤ t ∧ t ≤ 9223372036854775807) (w : World) :
    Calls Tryd.prog 127 #[.agg (nV s key t)] w (WritePost w s key t) := by
  have NC := Named_calls s hs (w.alloc (.cells (nV s key t) 111))
  have hN : (w.alloc (.cells (nV s key t) 111)).heap[w.heap.size]? = some (.cells (nV s key t) 111 (0, 0)) := heap_alloc_new w _
  have c0 : (w.alloc (.cells (nV s key t) 111)).cell? ⟨w.heap.size, 0, none⟩ = some (.string s) := by rw [cell_of_row _ w.heap.size 0 _ _ _ hN, nV_0]
  have hb0 : Below w.heap.size w (w.alloc (.cells (nV s key t) 111)) := (Below.refl _ _).alloc (Nat.le_refl _) _
  have hz0 : (w.alloc (.cells (nV s key t) 111)).heap.size = w.heap.size + 1 := by simp
  generalize hNV : nV s key t = V at *
  obtain ⟨nm, hnm⟩ : ∃ b, named s = b := ⟨_, rfl⟩
  rw [hnm] at NC
  have Hnm := Lib.hid hnm
  have HNV := Lib.hid hNV
  clear hnm hNV
  cases nm with
  | false =>
    go_enter Tryd.func127, Tryd.ntmps127
    go_wp2_with fail
    refine NC.mono ?_; rintro e w1 ⟨rfl, hb1⟩
    clear NC
    go_wp2_with fail
    go_ret2
    exact ⟨hb0.trans (hb1.mono (by omega)), .inr ⟨.inl Hnm.out, _, rfl⟩⟩
  | true =>
    go_enter Tryd.func127, Tryd.ntmps127
    go_wp2_with fail
    refine NC.mono ?_; rintro e w1 ⟨rfl, hb1⟩
    clear NC
    have hN1 : w1.heap[w.heap.size]? = some (.cells V 111 (0, 0)) := (hb1.block _ (by omega)).trans hN
    have hb01 : Below w.heap.size w w1 := hb0.trans (hb1.mono (by omega))
    have c33 : w1.cell? ⟨w.heap.size, 33, none⟩ = some (.int .i64 t) := by rw [cell_of_row _ w.heap.size 33 _ _ _ hN1, ← HNV.out, nV_33 s key t hk]
    by_cases hr : t < 0 ∨ 4294967296 ≤ t
    · have PN := Put_no t hr ht.2 w1
      have Hr := Lib.hid hr
      clear hr
      go_wp2_with fail
      refine PN.mono ?_; rintro e w' ⟨rfl, rfl⟩
      clear PN
      go_wp2_with fail
      go_ret2
      exact ⟨hb01, .inr ⟨.inr Hr.out, _, rfl⟩⟩
    · obtain ⟨n, rfl⟩ : ∃ n : Nat, t = n := ⟨t.toNat, by omega⟩
      have hn : n < 4294967296 := by omega
      have PO := Put_ok n hn w1
      obtain ⟨hs1, hs2⟩ := named_size Hnm.out
      clear hr
      go_wp2_with fail
      refine PO.mono ?_; rintro e w2 ⟨aT, cT, rfl, hownT, hb2⟩
      clear PO
      have hb02 : Below w.heap.size w w2 := hb01.trans (hb2.mono hb01.size)
      have hz1 := hb1.size
      have hz2 := hb2.size
      have hN2 : w2.heap[w.heap.size]? = some (.cells V 111 (0, 0)) := (hb2.block _ (by omega)).trans hN1
      have d0 : w2.cell? ⟨w.heap.size, 0, none⟩ = some (.string s) := by rw [cell_of_row _ w.heap.size 0 _ _ _ hN2, ← HNV.out, nV_0]
      have r3 : Rd w2 (some ⟨w.heap.size, 1, none⟩) 111 (key.map vB) := by
        refine .inr ⟨w.heap.size, 1, V, (0, 0), rfl, hN2, fun i hi => ?_⟩
        have hi2 : i < 32 := by rw [List.length_map, hk] at hi; exact hi
        rw [← HNV.out, nV_key s key n hk i hi2]
        simp
      have r4 := Rd.of_own hownT
      have Hcf : IntKind.u8.wrap (s.size : Int) = (s.size : Int) := by rw [IntKind.wrap_u8]; omega
      have hsz : ((UInt8.ofNat s.size).toNat : Int) = (s.size : Int) := by simp; omega
      have hvb : vB (UInt8.ofNat s.size) = .int .u8 (s.size : Int) := by unfold vB; rw [hsz]
      have hcv := fun w => run_bytes_of_string (P := Tryd.prog) w 9 67 5 s Tryd.underlying9 Tryd.underlying67 Tryd.underlying5
      have HVB := Lib.hid hvb
      have R3 := Lib.hid r3
      have R4 := Lib.hid r4
      have HB02 := Lib.hid hb02
      clear hvb hsz r3 r4 hN hN1 hN2 c0 c33 hb0 hb1 hb01 hb02 hb2 hownT
      go_wp2_with fail
      have CA : ∀ (C cq : Nat) (fr : Nat × Nat), Calls Tryd.prog 67 #[.slice (some ⟨w2.heap.size + 1 + 1, 0, none⟩) 4 4] ((((w2.alloc (.cells #[.int .u8 (s.size : Int)] 5)).alloc (.cells (bytesRow s C) 5 fr)).alloc (.cells #[.slice (some ⟨w2.heap.size, 0, none⟩) 1 1, .slice (some ⟨w2.heap.size + 1, 0, none⟩) s.size cq, .slice (some ⟨w.heap.size, 1, none⟩) 32 32, .slice aT 4 cT] 67)).drew.drew) (WriteOk w2 s key n) := fun C cq fr => by
        have h1 := Rd.new w2 #[.int .u8 (s.size : Int)] 5
        have h2 := bytesRow_Rd (w2.alloc (.cells #[.int .u8 (s.size : Int)] 5)) s C 5 fr
        rw [World.size_alloc] at h2
        have hbW : Below w2.heap.size w2 ((w2.alloc (.cells #[.int .u8 (s.size : Int)] 5)).alloc (.cells (bytesRow s C) 5 fr)).drew.drew := ((((Below.refl w2.heap.size w2).alloc (Nat.le_refl _) _).alloc (by rw [World.size_alloc]; omega) _).drew).drew
        have h3 := R3.out.below hbW
        have h4 := R4.out.below hbW
        have := rows_calls s key n hk hs1 hs2 w2 (((w2.alloc (.cells #[.int .u8 (s.size : Int)] 5)).alloc (.cells (bytesRow s C) 5 fr)).drew.drew) hbW (some ⟨w2.heap.size, 0, none⟩) (some ⟨w2.heap.size + 1, 0, none⟩) (some ⟨w.heap.size, 1, none⟩) aT 1 cq 32 cT 5 5 111 5 (by rw [HVB.out]; exact (h1.alloc _).drew.drew) (h2.drew.drew) h3 h4
        have e1 : (((w2.alloc (.cells #[.int .u8 (s.size : Int)] 5)).alloc (.cells (bytesRow s C) 5 fr)).drew.drew).heap.size = w2.heap.size + 1 + 1 := by simp
        rw [e1] at this
        exact this
      have CB : ∀ (C cq : Nat) (fr : Nat × Nat), Calls Tryd.prog 67 #[.slice (some ⟨w2.heap.size + 1 + 1, 0, none⟩) 4 4] ((((w2.alloc (.cells (bytesRow s C) 5 fr)).alloc (.cells #[.int .u8 (s.size : Int)] 5)).alloc (.cells #[.slice (some ⟨w2.heap.size + 1, 0, none⟩) 1 1, .slice (some ⟨w2.heap.size, 0, none⟩) s.size cq, .slice (some ⟨w.heap.size, 1, none⟩) 32 32, .slice aT 4 cT] 67)).drew.drew) (WriteOk w2 s key n) := fun C cq fr => by
        have h1 := bytesRow_Rd w2 s C 5 fr
        have h2 := Rd.new (w2.alloc (.cells (bytesRow s C) 5 fr)) #[.int .u8 (s.size : Int)] 5
        rw [World.size_alloc] at h2
        have hbW : Below w2.heap.size w2 ((w2.alloc (.cells (bytesRow s C) 5 fr)).alloc (.cells #[.int .u8 (s.size : Int)] 5)).drew.drew := ((((Below.refl w2.heap.size w2).alloc (Nat.le_refl _) _).alloc (by rw [World.size_alloc]; omega) _).drew).drew
        have h3 := R3.out.below hbW
        have h4 := R4.out.below hbW
        have := rows_calls s key n hk hs1 hs2 w2 (((w2.alloc (.cells (bytesRow s C) 5 fr)).alloc (.cells #[.int .u8 (s.size : Int)] 5)).drew.drew) hbW (some ⟨w2.heap.size + 1, 0, none⟩) (some ⟨w2.heap.size, 0, none⟩) (some ⟨w.heap.size, 1, none⟩) aT 1 cq 32 cT 5 5 111 5 (by rw [HVB.out]; exact h2.drew.drew) ((h1.alloc _).drew.drew) h3 h4
        have e1 : (((w2.alloc (.cells (bytesRow s C) 5 fr)).alloc (.cells #[.int .u8 (s.size : Int)] 5)).drew.drew).heap.size = w2.heap.size + 1 + 1 := by simp
        rw [e1] at this
        exact this
      have hlt2 : w.heap.size < w2.heap.size := by omega
      have kk1 : ∀ o1, (w2.alloc o1).cell? ⟨w.heap.size, 0, none⟩ = some (.string s) := fun o1 => (World.cell?_alloc_lt w2 o1 ⟨w.heap.size, 0, none⟩ hlt2).trans d0
      have kk2 : ∀ o1 o2, ((w2.alloc o1).alloc o2).cell? ⟨w.heap.size, 0, none⟩ = some (.string s) := fun o1 o2 => (World.cell?_alloc_lt (w2.alloc o1) o2 ⟨w.heap.size, 0, none⟩ (by show w.heap.size < _; rw [World.size_alloc]; omega)).trans (kk1 o1)
      have kk3 : ∀ o1 o2 o3, (((w2.alloc o1).alloc o2).alloc o3).cell? ⟨w.heap.size, 0, none⟩ = some (.string s) := fun o1 o2 o3 => (World.cell?_alloc_lt ((w2.alloc o1).alloc o2) o3 ⟨w.heap.size, 0, none⟩ (by show w.heap.size < _; rw [World.size_alloc, World.size_alloc]; omega)).trans (kk2 o1 o2)
      have kd1 : ∀ o1, (w2.alloc o1).drew.drew.cell? ⟨w.heap.size, 0, none⟩ = some (.string s) := kk1
      have kd2 : ∀ o1 o2, ((w2.alloc o1).alloc o2).drew.drew.cell? ⟨w.heap.size, 0, none⟩ = some (.string s) := kk2
      have kd3 : ∀ o1 o2 o3, (((w2.alloc o1).alloc o2).alloc o3).drew.drew.cell? ⟨w.heap.size, 0, none⟩ = some (.string s) := kk3
      have KK1 := Lib.hid kk1
      have KD1 := Lib.hid kd1
      have KD2 := Lib.hid kd2
      have KD3 := Lib.hid kd3
      clear kk1 kk2 kk3 kd1 kd2 kd3
      refine wp_region_held_drew (S := fun w' => w'.cell? ⟨w.heap.size, 0, none⟩ = some (.string s)) (by kernel_rfl) d0 (fun hHeld => ?_)
      refine wpAnyH_take (i := 0) (oi := _) (v := .pointer (some ⟨w.heap.size, 0, none⟩)) rfl (by kernel_rfl) (by kernel_rfl) (by kernel_rfl) (fun _ _ _ h => h) (Or.inl ⟨by rfl, fun w' hw => by (try dsimp only at hw); go_simp⟩) hHeld ?_
      try simp only [Act.put, List.getElem_toArray, List.getElem_cons_zero, List.getElem_cons_succ, List.setIfInBounds_toArray, List.set_cons_zero, List.set_cons_succ]
      refine wpAnyH_take (i := 1) (oi := _) (v := .string s) rfl (by kernel_rfl) (by kernel_rfl) (by kernel_rfl) (fun _ _ _ h => h) (Or.inl ⟨by rfl, fun w' hw => by (try dsimp only at hw); go_simp⟩) hHeld ?_
      try simp only [Act.put, List.getElem_toArray, List.getElem_cons_zero, List.getElem_cons_succ, List.setIfInBounds_toArray, List.set_cons_zero, List.set_cons_succ]
      refine wpAnyH_take (i := 2) (oi := _) (v := .int .i64 (s.size : Int)) rfl (by kernel_rfl) (by kernel_rfl) (by kernel_rfl) (fun _ _ _ h => h) (Or.inl ⟨by rfl, fun w' hw => by (try dsimp only at hw); go_simp⟩) hHeld ?_
      try simp only [Act.put, List.getElem_toArray, List.getElem_cons_zero, List.getElem_cons_succ, List.setIfInBounds_toArray, List.set_cons_zero, List.set_cons_succ]
      refine wpAnyH_take (i := 3) (oi := _) (v := .int .u8 (s.size : Int)) rfl (by kernel_rfl) (by kernel_rfl) (by kernel_rfl) (fun _ _ _ h => h) (Or.inl ⟨by rfl, fun w' hw => by (try dsimp only at hw); go_simp⟩) hHeld ?_
      try simp only [Act.put, List.getElem_toArray, List.getElem_cons_zero, List.getElem_cons_succ, List.setIfInBounds_toArray, List.set_cons_zero, List.set_cons_succ]
      refine wpAnyH_take (i := 5) (oi := _) (v := .pointer (some ⟨w.heap.size, 0, none⟩)) rfl (by kernel_rfl) (by kernel_rfl) (by kernel_rfl) (fun _ _ _ h => h) (Or.inl ⟨by rfl, fun w' hw => by (try dsimp only at hw); go_simp⟩) hHeld ?_
      try simp only [Act.put, List.getElem_toArray, List.getElem_cons_zero, List.getElem_cons_succ, List.setIfInBounds_toArray, List.set_cons_zero, List.set_cons_succ]
      refine wpAnyH_take (i := 6) (oi := _) (v := .string s) rfl (by kernel_rfl) (by kernel_rfl) (by kernel_rfl) (fun _ _ _ h => h) (Or.inl ⟨by rfl, fun w' hw => by (try dsimp only at hw); go_simp⟩) hHeld ?_
      try simp only [Act.put, List.getElem_toArray, List.getElem_cons_zero, List.getElem_cons_succ, List.setIfInBounds_toArray, List.set_cons_zero, List.set_cons_succ]
      refine wpAnyH_take (i := 8) (oi := _) (v := .pointer (some ⟨w.heap.size, 1, none⟩)) rfl (by kernel_rfl) (by kernel_rfl) (by kernel_rfl) (fun _ _ _ h => h) (Or.inl ⟨by rfl, fun w' hw => by (try dsimp only at hw); go_simp⟩) hHeld ?_
      try simp only [Act.put, List.getElem_toArray, List.getElem_cons_zero, List.getElem_cons_succ, List.setIfInBounds_toArray, List.set_cons_zero, List.set_cons_succ]
      refine wpAnyH_take (i := 9) (oi := _) (v := .slice (some ⟨w.heap.size, 1, none⟩) 32 32) rfl (by kernel_rfl) (by kernel_rfl) (by kernel_rfl) (fun _ _ _ h => h) (Or.inl ⟨by rfl, fun w' hw => by (try dsimp only at hw); go_simp⟩) hHeld ?_
      try simp only [Act.put, List.getElem_toArray, List.getElem_cons_zero, List.getElem_cons_succ, List.setIfInBounds_toArray, List.set_cons_zero, List.set_cons_succ]
      refine wpAnyH_take (i := 10) (oi := _) (v := .slice aT 4 cT) rfl (by kernel_rfl) (by kernel_rfl) (by kernel_rfl) (fun _ _ _ h => h) (Or.inl ⟨by rfl, fun w' hw => by (try dsimp only at hw); go_simp⟩) hHeld ?_
      try simp only [Act.put, List.getElem_toArray, List.getElem_cons_zero, List.getElem_cons_succ, List.setIfInBounds_toArray, List.set_cons_zero, List.set_cons_succ]
      refine wpAnyH_ready (rs := [4, 7]) (by kernel_rfl) (by simp) ?_
      refine AllReadyH.cons (o := _) rfl (fun K hK => ?_) (AllReadyH.cons (o := _) rfl (fun K hK => ?_) AllReadyH.nil)
      · go_simp
        refine hK.out _ _ (KK1.out _) (fun hHeldN => ?_)
        clear hK K hHeld
        have hHeld := hHeldN
        clear hHeldN
        try simp only [Act.put, List.getElem_toArray, List.getElem_cons_zero, List.getElem_cons_succ, List.setIfInBounds_toArray, List.set_cons_zero, List.set_cons_succ]
        refine wpAnyH_ready (rs := [7]) (by kernel_rfl) (by simp) ?_
        refine AllReadyH.cons (o := _) rfl (fun K hK => ?_) AllReadyH.nil
        go_simp
        refine hK.out _ _ (KD2.out _ _) (fun hHeldN => ?_)
        clear hK K hHeld
        have hHeld := hHeldN
        clear hHeldN
        try simp only [Act.put, List.getElem_toArray, List.getElem_cons_zero, List.getElem_cons_succ, List.setIfInBounds_toArray, List.set_cons_zero, List.set_cons_succ]
        refine wpAnyH_ready (rs := [11]) (by kernel_rfl) (by simp) ?_
        refine AllReadyH.cons (o := _) rfl (fun K hK => ?_) AllReadyH.nil
        go_simp
        refine hK.out _ _ (KD3.out _ _ _) (fun hHeldN => ?_)
        clear hK K hHeld
        have hHeld := hHeldN
        clear hHeldN
        try simp only [Act.put, List.getElem_toArray, List.getElem_cons_zero, List.getElem_cons_succ, List.setIfInBounds_toArray, List.set_cons_zero, List.set_cons_succ]
        refine wpAnyH_ready (rs := [12]) (by kernel_rfl) (by simp) ?_
        refine AllReadyH.cons (o := _) rfl (fun K hK => ?_) AllReadyH.nil
        go_simp
        go_at_call 67
        refine (CA _ _ _).mono ?_
        rintro e w9 ⟨a9, c9, rfl, h9, b9⟩
        dsimp only
        refine hK.out _ _ ((b9.cell (p := ⟨w.heap.size, 0, none⟩) hlt2).trans d0) (fun hHeldN => ?_)
        clear hK K hHeld
        have hHeld := hHeldN
        clear hHeldN
        try simp only [Act.put, List.getElem_toArray, List.getElem_cons_zero, List.getElem_cons_succ, List.setIfInBounds_toArray, List.set_cons_zero, List.set_cons_succ]
        have hl9 := noteB_length s key n hk
        simp only [Int.toNat_natCast] at h9
        rw [hl9] at h9
        refine wpAnyH_take (i := 13) (oi := _) (v := .slice a9 (noteB s key n).length c9) rfl (by kernel_rfl) (by kernel_rfl) (by kernel_rfl) (fun _ _ _ h => h) (Or.inl ⟨by rfl, fun w' hw => by (try dsimp only at hw); go_simp⟩) hHeld ?_
        try simp only [Act.put, List.getElem_toArray, List.getElem_cons_zero, List.getElem_cons_succ, List.setIfInBounds_toArray, List.set_cons_zero, List.set_cons_succ]
        refine wpAnyH_take (i := 14) (oi := _) (v := .nilIface) rfl (by kernel_rfl) (by kernel_rfl) (by kernel_rfl) (fun _ _ _ h => h) (Or.inl ⟨by rfl, fun w' hw => by (try dsimp only at hw); go_simp⟩) hHeld ?_
        try simp only [Act.put, List.getElem_toArray, List.getElem_cons_zero, List.getElem_cons_succ, List.setIfInBounds_toArray, List.set_cons_zero, List.set_cons_succ]
        refine wpAnyH_done (by kernel_rfl) ?_ _
        rw [hl9]
        clear hHeld hl9 CA CB KK1 KD1 KD2 KD3 d0
        rename_i kk ka
        refine ka _ _ ?_
        go_wp2_with fail
        go_ret2
        have hfin1 : Below w.heap.size w w9 := HB02.out.trans (b9.mono (by omega))
        have hfin2 := own_base h9 (show w.heap.size ≤ w2.heap.size by omega)
        refine ⟨hfin1, .inl ⟨Hnm.out, by omega, by omega, a9, c9, ?_, hfin2⟩⟩
        rfl
      · clear CA CB KK1 KD1 KD2 KD3
        go_simp
        generalize grownCap w2.drew s.size 0 5 = C
        have rC := bytesRow_Rd w2 s C 5 ((bytesRow s C).size, (bytesRow s C).size + 1)
        have bC := (((Below.refl w2.heap.size w2).alloc (Nat.le_refl _) (.cells (bytesRow s C) 5 ((bytesRow s C).size, (bytesRow s C).size + 1))).drew).drew
        have sC : ((w2.alloc (.cells (bytesRow s C) 5 ((bytesRow s C).size, (bytesRow s C).size + 1))).drew.drew).heap.size = w2.heap.size + 1 := by simp
        have rC2 : Rd ((w2.alloc (.cells (bytesRow s C) 5 ((bytesRow s C).size, (bytesRow s C).size + 1))).drew.drew) (some ⟨w2.heap.size, 0, none⟩) 5 ((sb s).map vB) := rC
        clear rC hcv
        generalize (w2.alloc (.cells (bytesRow s C) 5 ((bytesRow s C).size, (bytesRow s C).size + 1))).drew.drew = W5 at rC2 bC sC ⊢
        have d5 : W5.cell? ⟨w.heap.size, 0, none⟩ = some (.string s) := (bC.cell (p := ⟨w.heap.size, 0, none⟩) hlt2).trans d0
        have hlt5 : w.heap.size < W5.heap.size := by omega
        have CB := fun cq => rows_calls s key n hk hs1 hs2 w2 (W5.alloc (.cells #[.int .u8 (s.size : Int)] 5)) (bC.alloc (by omega) _) (some ⟨W5.heap.size, 0, none⟩) (some ⟨w2.heap.size, 0, none⟩) (some ⟨w.heap.size, 1, none⟩) aT 1 cq 32 cT 5 5 111 5 (by rw [HVB.out]; exact Rd.new W5 #[.int .u8 (s.size : Int)] 5) (rC2.alloc _) ((R3.out.below bC).alloc _) ((R4.out.below bC).alloc _)
        rw [World.size_alloc] at CB
        have k5 : ∀ o1, (W5.alloc o1).cell? ⟨w.heap.size, 0, none⟩ = some (.string s) := fun o1 => (World.cell?_alloc_lt W5 o1 ⟨w.heap.size, 0, none⟩ hlt5).trans d5
        have K5 := Lib.hid k5
        have k6 : ∀ o1 o2, ((W5.alloc o1).alloc o2).cell? ⟨w.heap.size, 0, none⟩ = some (.string s) := fun o1 o2 => (World.cell?_alloc_lt (W5.alloc o1) o2 ⟨w.heap.size, 0, none⟩ (by show w.heap.size < _; rw [World.size_alloc]; omega)).trans (k5 o1)
        have K6 := Lib.hid k6
        clear k5 k6
        have SC := Lib.hid sC
        have D5 := Lib.hid d5
        have D0 := Lib.hid d0
        have BC := Lib.hid bC
        have CBH := Lib.hid CB
        have RC2 := Lib.hid rC2
        clear sC d0 bC CB rC2
        refine hK.out _ _ d5 (fun hHeldN => ?_)
        clear hK K hHeld d5
        have hHeld := hHeldN
        clear hHeldN
        try simp only [Act.put, List.getElem_toArray, List.getElem_cons_zero, List.getElem_cons_succ, List.setIfInBounds_toArray, List.set_cons_zero, List.set_cons_succ]
        refine wpAnyH_ready (rs := [4]) (by kernel_rfl) (by simp) ?_
        refine AllReadyH.cons (o := _) rfl (fun K hK => ?_) AllReadyH.nil
        go_simp
        refine hK.out _ _ (K5.out _) (fun hHeldN => ?_)
        clear hK K hHeld
        have hHeld := hHeldN
        clear hHeldN
        try simp only [Act.put, List.getElem_toArray, List.getElem_cons_zero, List.getElem_cons_succ, List.setIfInBounds_toArray, List.set_cons_zero, List.set_cons_succ]
        refine wpAnyH_ready (rs := [11]) (by kernel_rfl) (by simp) ?_
        refine AllReadyH.cons (o := _) rfl (fun K hK => ?_) AllReadyH.nil
        go_simp
        refine hK.out _ _ (K6.out _ _) (fun hHeldN => ?_)
        clear hK K hHeld
        have hHeld := hHeldN
        clear hHeldN
        try simp only [Act.put, List.getElem_toArray, List.getElem_cons_zero, List.getElem_cons_succ, List.setIfInBounds_toArray, List.set_cons_zero, List.set_cons_succ]
        refine wpAnyH_ready (rs := [12]) (by kernel_rfl) (by simp) ?_
        refine AllReadyH.cons (o := _) rfl (fun K hK => ?_) AllReadyH.nil
        go_simp
        go_at_call 67
        refine (CBH.out _).mono ?_
        rintro e w9 ⟨a9, c9, rfl, h9, b9⟩
        dsimp only
        refine hK.out _ _ ((b9.cell (p := ⟨w.heap.size, 0, none⟩) hlt2).trans D0.out) (fun hHeldN => ?_)
        clear hK K hHeld
        have hHeld := hHeldN
        clear hHeldN
        try simp only [Act.put, List.getElem_toArray, List.getElem_cons_zero, List.getElem_cons_succ, List.setIfInBounds_toArray, List.set_cons_zero, List.set_cons_succ]
        have hl9 := noteB_length s key n hk
        simp only [Int.toNat_natCast] at h9
        rw [hl9] at h9
        refine wpAnyH_take (i := 13) (oi := _) (v := .slice a9 (noteB s key n).length c9) rfl (by kernel_rfl) (by kernel_rfl) (by kernel_rfl) (fun _ _ _ h => h) (Or.inl ⟨by rfl, fun w' hw => by (try dsimp only at hw); go_simp⟩) hHeld ?_
        try simp only [Act.put, List.getElem_toArray, List.getElem_cons_zero, List.getElem_cons_succ, List.setIfInBounds_toArray, List.set_cons_zero, List.set_cons_succ]
        refine wpAnyH_take (i := 14) (oi := _) (v := .nilIface) rfl (by kernel_rfl) (by kernel_rfl) (by kernel_rfl) (fun _ _ _ h => h) (Or.inl ⟨by rfl, fun w' hw => by (try dsimp only at hw); go_simp⟩) hHeld ?_
        try simp only [Act.put, List.getElem_toArray, List.getElem_cons_zero, List.getElem_cons_succ, List.setIfInBounds_toArray, List.set_cons_zero, List.set_cons_succ]
        refine wpAnyH_done (by kernel_rfl) ?_ _
        rw [hl9]
        clear hHeld hl9 K5 K6 hlt5 RC2 CBH D0
        rename_i kk ka
        refine ka _ _ ?_
        go_wp2_with fail
        go_ret2
        have hfin1 : Below w.heap.size w w9 := HB02.out.trans (b9.mono (by omega))
        have hfin2 := own_base h9 (show w.heap.size ≤ w2.heap.size by omega)
        refine ⟨hfin1, .inl ⟨Hnm.out, by omega, by omega, a9, c9, ?_, hfin2⟩⟩
        rfl
end Go.Proofs.YtkioddmhjbaleaaDoor
