/- Walk: lot.Mix tells all digests as one. -/
import Derived.Test.YtgngbmmmoecohaaDoorArr
import Derived.WalkKit
import Derived.ProofKit
import Derived.Lib.Hide
namespace Go.Proofs.YtgngbmmmoecohaaDoor
open Go.RowKit
set_option linter.unusedVariables false

@[go_sem] theorem xor8 (a b : UInt8) : bits .xor .u8 (a.toNat : Int) (b.toNat : Int) = ((Gf.add a b).toNat : Int) := by
  unfold Gf.add
  have ha := a.toNat_lt
  have hb := b.toNat_lt
  show IntKind.u8.wrap ((BitVec.ofInt 8 (a.toNat : Int) ^^^ BitVec.ofInt 8 (b.toNat : Int)).toNat : Int) = _
  rw [BitVec.toNat_xor, BitVec.ofInt_natCast, BitVec.ofInt_natCast, BitVec.toNat_ofNat, BitVec.toNat_ofNat, Nat.mod_eq_of_lt ha, Nat.mod_eq_of_lt hb, ← UInt8.toNat_xor]
  have hc := (a ^^^ b).toNat_lt
  rw [IntKind.wrap_u8]; omega

/-- the byte at q of all digests as one -/
def mixAt (ds : List (List UInt8)) (q : Nat) : UInt8 := ds.foldl (fun x d => Gf.add x (d.getD q 0)) 0
def mixOf (ds : List (List UInt8)) : List UInt8 := (List.range 32).map (mixAt ds)
def mixM (ds : List (List UInt8)) (m i : Nat) : List UInt8 := (List.range 32).map fun q => if q < i then mixAt (ds.take (m + 1)) q else mixAt (ds.take m) q
theorem mixOf_length (ds : List (List UInt8)) : (mixOf ds).length = 32 := by simp [mixOf]
theorem mixM_length (ds : List (List UInt8)) (m i : Nat) : (mixM ds m i).length = 32 := by simp [mixM]
theorem mixAt_take (ds : List (List UInt8)) (m q : Nat) (h : m < ds.length) : mixAt (ds.take (m + 1)) q = Gf.add (mixAt (ds.take m) q) (ds[m].getD q 0) := by
  unfold mixAt; rw [List.take_succ_eq_append_getElem h, List.foldl_append]; rfl
theorem mixM_zero (ds : List (List UInt8)) (m : Nat) : mixM ds m 0 = mixOf (ds.take m) := by simp [mixM, mixOf]
theorem mixM_all (ds : List (List UInt8)) (m : Nat) : mixM ds m 32 = mixOf (ds.take (m + 1)) := by
  unfold mixM mixOf
  refine List.map_congr_left fun q hq => ?_
  rw [if_pos (List.mem_range.1 hq)]
theorem mixM_get (ds : List (List UInt8)) (m i q : Nat) (h : q < (mixM ds m i).length) : (mixM ds m i)[q] = if q < i then mixAt (ds.take (m + 1)) q else mixAt (ds.take m) q := by simp [mixM]
theorem mixM_set (ds : List (List UInt8)) (m i : Nat) (hi : i < 32) : (mixM ds m i).set i (mixAt (ds.take (m + 1)) i) = mixM ds m (i + 1) := by
  apply List.ext_getElem
  · simp [mixM]
  · intro q h1 h2
    rw [List.getElem_set, mixM_get, mixM_get]
    by_cases e : i = q
    · subst e; rw [if_pos rfl, if_pos (by omega)]
    · rw [if_neg e]
      by_cases g : q < i
      · rw [if_pos g, if_pos (by omega)]
      · rw [if_neg g, if_neg (by omega)]
theorem mixOf_nil : mixOf [] = List.replicate 32 0 := by decide

set_option maxRecDepth 20000 in
theorem Mix_calls (ds : List (List UInt8)) (hd : ∀ d ∈ ds, d.length = 32) (a : Option Addr) (ca ea : Nat) (w : World) (hr : Rd w a ea (ds.flatten.map vB)) (hl : ds.length ≤ 9223372036854775807) :
    Calls Tryd.prog 33 #[.slice a ds.length ca] w fun e w' => e = .returned (.agg (dV (mixOf ds))) ∧ Below w.heap.size w w' := by
  have Hd := Lib.hid hd
  clear hd
  obtain ⟨O, hO⟩ : ∃ O, O = w.heap.size := ⟨_, rfl⟩
  have HO := Lib.hid hO
  go_enter Tryd.func33, Tryd.ntmps33
  go_wp2
  rw [← hO]
  clear hO
  go_loopw [9] (fun i wr => ∃ m : Nat, m ≤ ds.length ∧ i = .int .i64 m ∧ wr.heap[O]? = some (.cells (dV (mixOf (ds.take m))) 23 (0, 0)) ∧ Below O w wr) (fun i _ => ds.length - (intOf i).toNat)
  case atStart => exact ⟨0, Nat.zero_le _, rfl, by rw [HO.out, List.take_zero, mixOf_nil]; exact heap_alloc_new _ _, (Below.refl _ w).alloc (by rw [HO.out]; exact Nat.le_refl _) _⟩
  case round =>
    obtain ⟨m, hm, rfl, hh, hbl⟩ := hrel
    have hOs := lt_of_heap hh
    have hwO : w.heap.size ≤ O := by rw [HO.out]; exact Nat.le_refl _
    by_cases hlt : m < ds.length
    · obtain ⟨b, o, rfl, hb, hrg⟩ := hr.range Hd.out hlt
      have hlen : ds[m].length = 32 := Hd.out _ (List.getElem_mem _)
      have hrg2 : wr.rangeAt b (o + m * 32) (ds[m].map vB) := fun j v hj => (hbl.cell (p := ⟨b, o + m * 32 + j, none⟩) (by rw [HO.out]; exact hb)).trans (hrg j v hj)
      have hstep : ∀ q, mixAt (ds.take (m + 1)) q = Gf.add (mixAt (ds.take m) q) (ds[m].getD q 0) := fun q => mixAt_take ds m q hlt
      have m0 : (0 : Int) ≤ (m : Int) := by omega
      have m1 : (m : Int) < (ds.length : Int) := by omega
      have HRg := Lib.hid hrg2
      have Hstep := Lib.hid hstep
      have Hh := Lib.hid hh
      have Hlen := Lib.hid hlen
      clear hrg hrg2 hstep hh hlen
      obtain ⟨D, hD⟩ : ∃ D, D = ds[m] := ⟨_, rfl⟩
      rw [← hD] at HRg Hstep Hlen
      clear hD
      go_wp2_with (first
        | (refine ld_dig rfl (.tmp 11) rfl b (o + m * 32) (by rfl) D Hlen.out HRg.out ?_)
        | (refine st_new rfl (.tmp 4) (.tmp 12) rfl D Hlen.out (by rfl) _ _ (by rfl) (by rfl) ?_)
        | (refine ld_new rfl (.tmp 4) rfl D Hlen.out _ (by rfl) ?_))
      have hb1 : Below O w (wr.alloc (.cells (dV D) 23)) := hbl.alloc (by omega) _
      have hh1 : (wr.alloc (.cells (dV D) 23)).heap[O]? = some (.cells (dV (mixOf (ds.take m))) 23 (0, 0)) := (Below.heap_alloc wr _ O hOs).trans Hh.out
      generalize wr.alloc (.cells (dV D) 23) = w1 at *
      go_loopw [14] (fun q wr => ∃ i : Nat, i ≤ 32 ∧ q = .int .i64 i ∧ wr.heap[O]? = some (.cells (dV (mixM ds m i)) 23 (0, 0)) ∧ Below O w wr) (fun q _ => 32 - (intOf q).toNat)
      case atStart => exact ⟨0, Nat.zero_le _, rfl, by rw [mixM_zero]; exact hh1, hb1⟩
      case round =>
        clear hh1 hb1
        obtain ⟨i, hi, rfl, hhi, hbi⟩ := hrel
        by_cases hlt2 : i < 32
        · have q1 : decide ((i : Int) < 32) = true := by rw [decide_eq_true_eq]; omega
          have ix := fun w => run_index_dig (d := D) Hlen.out hlt2 w
          have hml := mixM_length ds m i
          have c0 : wr.cell? ⟨O, i, none⟩ = some (.int .u8 (mixAt (ds.take m) i).toNat) := by
            rw [cell_of_row _ O i _ _ _ hhi, dV_get (by omega), mixM_get, if_neg (by omega)]
          have f0 : wr.frozen? ⟨O, i, none⟩ = false := frozen_of_row _ O i _ _ hhi
          have hset := mixM_set ds m i hlt2
          have hst := Hstep.out i
          have hDi : D.getD i 0 = D[i]'(by rw [Hlen.out]; exact hlt2) := by rw [List.getD_eq_getElem?_getD, List.getElem?_eq_getElem (by rw [Hlen.out]; exact hlt2)]; rfl
          rw [hst, hDi] at hset
          have HSet := Lib.hid hset
          have i0 : (0 : Int) ≤ (i : Int) := by omega
          have i1 : (i : Int) < 32 := by omega
          have Hhi := Lib.hid hhi
          clear hml hset hst hDi hhi
          generalize D[i]'(by rw [Hlen.out]; exact hlt2) = y at *
          generalize mixAt (ds.take m) i = z at *
          go_wp2
          have h5 := heap_setCell_same wr O i _ _ (.int .u8 (Gf.add z y).toNat) Hhi.out
          rw [dV_set, HSet.out] at h5
          have b5 := hbi.setCell (p := ⟨O, i, none⟩) (Nat.le_refl _) (.int .u8 (Gf.add z y).toNat)
          go_roundw
          case rel => exact ⟨i + 1, by omega, by go_num, h5, b5⟩
          case measure => simp [intOf] <;> omega
        · obtain rfl : i = 32 := by omega
          have q1 : decide (((32 : Nat) : Int) < 32) = false := by decide
          rw [mixM_all] at hhi
          go_wp2
          go_roundw
          case rel => exact ⟨m + 1, by omega, by go_num, hhi, hbi⟩
          case measure => simp [intOf] <;> omega
    · obtain rfl : m = ds.length := by omega
      rw [List.take_of_length_le (Nat.le_refl _)] at hh
      have hml := mixOf_length ds
      have Hh := Lib.hid hh
      have h6 := setRow_heap wr O _ (dV (mixOf ds)) _ _ hh
      have b6 := below_setRow hbl (Nat.le_refl O) (dV (mixOf ds))
      have H6 := Lib.hid h6
      clear hh h6
      go_wp2_with (first
        | (refine ld_row rfl (.tmp 2) rfl O (by rfl) (mixOf ds) hml _ _ Hh.out ?_)
        | (refine st_row rfl (.tmp 2) (.tmp 26) rfl O (mixOf ds) hml (by rfl) (by rfl) _ (dV_size hml) _ Hh.out ?_))
      refine bodyPost_ret (v := .agg (dV (mixOf ds))) ?_ rfl ⟨rfl, b6.mono hwO⟩
      exact results_cell_row rfl _ _ O _ _ _ _ (by rfl) H6.out Tryd.underlying23 rfl (info_dV hml)
end Go.Proofs.YtgngbmmmoecohaaDoor
