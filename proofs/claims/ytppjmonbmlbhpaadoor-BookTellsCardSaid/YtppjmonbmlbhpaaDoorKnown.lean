/- Walk: oathbookref2.Known: the contact of a name in a book. -/
import Derived.Test.YtppjmonbmlbhpaaDoorRisesLaw
import Derived.Test.YtppjmonbmlbhpaaDoorMeet
namespace Go.Proofs.YtppjmonbmlbhpaaDoor
open Go.RowKit
set_option linter.unusedVariables false
set_option linter.unusedSimpArgs false
theorem results_cell_tmp {fn : Func} {k u : Nat} {t : TypeId} (h : fn.results = #[.cell k t, .tmp u]) (tmps : Array Value) (P : Program) (w : World) (p : Addr) (v : Value) (hp : tmps.getD k undef = .pointer (some p)) (hl : (loadVar t p).run P w = .ok v w) : (results fn tmps).run P w = .ok (.tuple #[v, tmps.getD u undef]) w := by
  have hp2 : tmps[k]?.getD undef = .pointer (some p) := by simpa using hp
  simp [results, h, hp2, asAddr, hl]
theorem zero_W : CtW zeroCt := ⟨noKey_length, by decide, by decide, by decide⟩
set_option maxRecDepth 20000 in
set_option maxHeartbeats 4000000 in
theorem Known_calls (b : List Ct) (hw : ∀ c ∈ b, CtW c) (a : Option Addr) (cap e : Nat) (n : ByteArray) (w : World) (hr : Rd w a e (cellsC b)) (hl : b.length ≤ 9223372036854775807) :
    Calls Tryd.prog 17 #[.slice a b.length cap, .string n] w fun e w' => e = .returned (.tuple #[.agg (cV ((lk b n).getD zeroCt)), .bool (lk b n).isSome]) ∧ Below w.heap.size w w' := by
  have Hw := Lib.hid hw
  clear hw
  obtain ⟨V, hV⟩ : ∃ V : Array Value, V = #[.string ⟨#[]⟩, .int .u8 0, .int .u8 0, .int .u8 0, .int .u8 0, .int .u8 0, .int .u8 0, .int .u8 0, .int .u8 0, .int .u8 0, .int .u8 0, .int .u8 0, .int .u8 0, .int .u8 0, .int .u8 0, .int .u8 0, .int .u8 0, .int .u8 0, .int .u8 0, .int .u8 0, .int .u8 0, .int .u8 0, .int .u8 0, .int .u8 0, .int .u8 0, .int .u8 0, .int .u8 0, .int .u8 0, .int .u8 0, .int .u8 0, .int .u8 0, .int .u8 0, .int .u8 0, .int .i64 0] := ⟨_, rfl⟩
  have hVs : V.size = 34 := by rw [hV]; rfl
  have HV := Lib.hid hV
  obtain ⟨w1, hw1⟩ : ∃ w1, w1 = w.alloc (.cells V 37) := ⟨_, rfl⟩
  have hb1 : Below w.heap.size w w1 := by rw [hw1]; exact (Below.refl _ _).alloc (Nat.le_refl _) _
  have hg1 : w1.heap[w.heap.size]? = some (.cells V 37 (0, 0)) := by rw [hw1]; exact heap_alloc_new _ _
  have hr1 := hr.below hb1
  have HW1 := Lib.hid hw1
  have HB1 := Lib.hid hb1
  have HG1 := Lib.hid hg1
  clear hV hw1 hb1 hg1 hr
  go_enter Tryd.func17, Tryd.ntmps17
  go_wp2_with fail
  rw [← HV.out, ← HW1.out]
  clear HV HW1
  go_loopw [6] (fun i wr => ∃ k : Nat, k ≤ b.length ∧ i = .int .i64 k ∧ lk b n = lk (b.drop k) n ∧ wr = w1) (fun i _ => b.length - (intOf i).toNat)
  case atStart => exact ⟨0, Nat.zero_le _, rfl, rfl, rfl⟩
  case round =>
    obtain ⟨k, hk, rfl, ht, rfl⟩ := hrel
    have Ht := Lib.hid ht
    clear ht
    by_cases hlt : k < b.length
    · obtain ⟨B, o, rfl, _, hrg⟩ := hr1.cont Hw.out hlt
      have hcw := Hw.out _ (List.getElem_mem hlt)
      have hdr := List.drop_eq_getElem_cons hlt
      obtain ⟨c, hc⟩ : ∃ c, c = b[k] := ⟨_, rfl⟩
      rw [← hc] at hrg hcw hdr
      have nc := range_name hrg
      have HRG := Lib.hid hrg
      have HCW := Lib.hid hcw
      have HDR := Lib.hid hdr
      have i1 : (k : Int) < (b.length : Int) := by omega
      have i0 : (0 : Int) ≤ (k : Int) := by omega
      clear hrg hcw hdr hr1 hc
      by_cases he : c.name = n
      · have q1 : (c.name.toList == n.toList) = true := by rw [he]; exact beq_self_eq_true _
        have hlk : lk b n = some c := by rw [Ht.out, HDR.out]; exact lk_cons_pos he
        have HLK := Lib.hid hlk
        clear he hlk
        go_wp2_with (first
          | (refine ld_recM contT rfl (.tmp 22) rfl B (o + k * 34) (by rfl) c HCW.out HRG.out ?_)
          | (refine st_rec contT rfl (.tmp 4) (.tmp 23) rfl w.heap.size c HCW.out (by rfl) (by rfl) V hVs _ HG1.out ?_))
        try simp only [Exit.inBlock, Exit.then]
        refine bodyPost_ret (results_cell_tmp rfl _ _ _ ⟨w.heap.size, 0, none⟩ (.agg (cV c)) rfl ?_) rfl ?_
        · exact cont_load HCW.out (range_rec (setRow_heap _ _ _ _ _ _ HG1.out))
        · exact ⟨by rw [HLK.out]; rfl, below_setRow HB1.out (Nat.le_refl _) _⟩
      · have q1 : (c.name.toList == n.toList) = false := by
          rw [beq_eq_false_iff_ne]
          intro h
          rw [Lib.toList_data, Lib.toList_data] at h
          exact he (by cases hcn : c.name; cases n; rw [hcn] at h; simp at h; rw [h])
        have hlk : lk b n = lk (b.drop (k + 1)) n := by rw [Ht.out, HDR.out]; exact lk_cons_neg he
        have HLK := Lib.hid hlk
        clear he hlk
        go_wp2_with fail
        go_roundw
        case rel => exact ⟨k + 1, by omega, by go_num, HLK.out, trivial⟩
        case measure => simp [intOf] <;> omega
    · obtain rfl : k = b.length := by omega
      have hlk : lk b n = none := by rw [Ht.out, List.drop_length]; rfl
      have HLK := Lib.hid hlk
      clear hlk
      go_wp2_with (first
        | (refine st_rec contT rfl (.tmp 4) (.tmp 24) rfl w.heap.size zeroCt zero_W (by rfl) (by rfl) V hVs _ HG1.out ?_))
      try simp only [Exit.inBlock, Exit.then]
      refine bodyPost_ret (results_cell_tmp rfl _ _ _ ⟨w.heap.size, 0, none⟩ (.agg (cV zeroCt)) rfl ?_) rfl ?_
      · exact cont_load zero_W (range_rec (setRow_heap _ _ _ _ _ _ HG1.out))
      · exact ⟨by rw [HLK.out]; rfl, below_setRow HB1.out (Nat.le_refl _) _⟩
end Go.Proofs.YtppjmonbmlbhpaaDoor
