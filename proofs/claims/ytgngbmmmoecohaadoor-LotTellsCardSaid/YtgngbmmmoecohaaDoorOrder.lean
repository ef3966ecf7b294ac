/- Walk: lot.Order draws an order. -/
import Derived.Test.YtgngbmmmoecohaaDoorPick
import Derived.BigRegion
import Derived.ChangeAlike
import Derived.RegionTactic
namespace Go.Proofs.YtgngbmmmoecohaaDoor
open Go.RowKit
set_option linter.unusedVariables false
set_option linter.unusedSimpArgs false
/-- a number as a value -/
def vK (x : Nat) : Value := .int .i64 (x : Int)
theorem one_nums (l : List Nat) : ∀ u ∈ l.map vK, u.oneCell' = true := by
  intro u hu
  obtain ⟨b, _, rfl⟩ := List.mem_map.1 hu
  rfl
theorem ownK {w : World} {base : Nat} {e : TypeId} {V n cap : Nat} {l : List Nat} (h : w.ownsRow base e 1 (.slice (some ⟨V, 0, none⟩) n cap) n (l.map vK)) {k : Nat} (hk : k < l.length) : w.cell? ⟨V, k, none⟩ = some (.int .i64 (l.getD k 0 : Nat)) ∧ w.frozen? ⟨V, k, none⟩ = false := by
  have := own_cell h (k := k) (by simpa using hk)
  rw [List.getD_eq_getElem?_getD, List.getElem?_eq_getElem hk]
  simpa [vK] using this
theorem ownK_set {w : World} {base : Nat} {e : TypeId} {V n cap : Nat} {l : List Nat} (h : w.ownsRow base e 1 (.slice (some ⟨V, 0, none⟩) n cap) n (l.map vK)) (k : Nat) (x : Nat) : (w.setCell ⟨V, k, none⟩ (.int .i64 (x : Int))).ownsRow base e 1 (.slice (some ⟨V, 0, none⟩) n cap) n ((l.set k x).map vK) := by
  have := own_set h k (.int .i64 (x : Int))
  rw [List.map_set]; exact this
theorem Rd.numsK {w : World} {a : Option Addr} {e : TypeId} {xs : List Nat} (h : Rd w a e (xs.map vK)) {k : Nat} (hk : k < xs.length) :
    ∃ b o, a = some ⟨b, o, none⟩ ∧ b < w.heap.size ∧ ∀ i, (h : i < xs.length) → w.cell? ⟨b, o + i, none⟩ = some (.int .i64 (xs[i] : Nat)) := by
  obtain ⟨b, o, ha, hb, hc⟩ := h.cell (k := k) (by simpa using hk)
  exact ⟨b, o, ha, hb, fun i h => by have := hc i (by simpa using h); simpa [vK] using this⟩
theorem info_intO : (Tryd.prog.info? 3).map (fun i => (i.zero, i.size, i.bytes)) = some (some (.int .i64 0), 1, 8) := by kernel_rfl
/-- a row of numbers of the call's own, and no error -/
def RetK (w : World) (l : List Nat) (e : Ending) (w' : World) : Prop :=
  ∃ a cap, e = .returned (.tuple #[.slice a l.length cap, .nilIface]) ∧ w'.ownsRow w.heap.size 3 1 (.slice a l.length cap) l.length (l.map vK) ∧ Below w.heap.size w w'
theorem rep_K (n : Nat) : List.replicate n (Value.int .i64 0) = (List.replicate n 0).map vK := by simp [vK]
theorem Order_no (d : List UInt8) (n : Int) (h : n < 0 ∨ 1000 < n) (w : World) : Calls Tryd.prog 31 #[.agg (dV d), .int .i64 n] w fun e w' => e = .returned (.tuple #[.slice none 0 0, .iface 47 (.int .i64 2)]) ∧ Below w.heap.size w w' := by
  by_cases h1 : n < 0
  · have q1 : decide (n < 0) = true := decide_eq_true h1
    clear h h1
    go_enter Tryd.func31, Tryd.ntmps31
    go_wp2_with fail
    go_ret2
    exact ⟨rfl, (Below.refl _ w).alloc (Nat.le_refl _) _⟩
  · have q1 : decide (n < 0) = false := decide_eq_false h1
    have q2 : decide (1000 < n) = true := decide_eq_true (by omega)
    clear h h1
    go_enter Tryd.func31, Tryd.ntmps31
    go_wp2_with fail
    go_ret2
    exact ⟨rfl, (Below.refl _ w).alloc (Nat.le_refl _) _⟩
set_option maxRecDepth 20000 in
set_option maxHeartbeats 4000000 in
theorem Order_calls (d : List UInt8) (hd : d.length = 32) (n : Nat) (hn : n ≤ 1000) (w : World) (hro : RoundsAt w) : Calls Tryd.prog 31 #[.agg (dV d), .int .i64 n] w (RetK w (orderOf d n)) := by
  obtain ⟨i0, hi0, hz0, hs0, hb0⟩ := info_parts info_intO
  obtain ⟨H, hH⟩ : ∃ H, H = w.heap.size := ⟨_, rfl⟩
  obtain ⟨w0, hw0⟩ : ∃ x, x = w.alloc (.cells (dV d) 23) := ⟨_, rfl⟩
  have q0 : w0.heap.size = H + 1 := by rw [hw0, hH]; exact World.size_alloc _ _
  have b0 : Below H w w0 := by rw [hw0, hH]; exact (Below.refl _ _).alloc (Nat.le_refl _) _
  have g0 : w0.heap[H]? = some (.cells (dV d) 23 (0, 0)) := by rw [hw0, hH]; exact heap_alloc_new _ _
  have z1 : decide ((n : Int) < 0) = false := decide_eq_false (by omega)
  have z2 : decide ((1000 : Int) < (n : Int)) = false := decide_eq_false (by omega)
  have z3 : decide (1000 < n) = false := decide_eq_false (by omega)
  have HW0 := Lib.hid hw0
  have HH := Lib.hid hH
  have B0 := Lib.hid b0
  have G0 := Lib.hid g0
  have HD := Lib.hid hd
  have RO := Lib.hid (hro.at_ (show Below w.heap.size w w0 by rw [← hH]; exact b0))
  have hH0 : H < w0.heap.size := by omega
  clear hw0 hH b0 g0 q0 hd hro
  go_enter Tryd.func31, Tryd.ntmps31
  go_wp2_with (at_make; rw [← HH.out, ← HW0.out]; refine wpList_make_full _ rfl _ _ 52 rfl w0.heap.size 3 i0 (.int .i64 0) 1 Tryd.underlying52 hi0 hz0 hs0 _ _ _ _ n rfl rfl rfl rfl ?c1 ?c2 ?c3 ?_)
  case c1 => rw [hb0]; omega
  case c2 => simp only [maxLen]; omega
  case c3 => exact Nat.le_refl _
  intro w2 hown2 hgrow2
  rw [made_one, rep_K n] at hown2
  have hb2 : Below w0.heap.size w0 w2 := (Below.refl _ w0).grown hgrow2 (Nat.le_refl _) (fun k hk => by cases hk)
  obtain ⟨W, hW⟩ : ∃ W, W = w0.heap.size := ⟨_, rfl⟩
  rw [← hW] at hown2 hb2 ⊢
  have HW := Lib.hid hW
  have HOWN := Lib.hid hown2
  have HB2 := Lib.hid hb2
  rw [← hW] at hH0
  clear hW hgrow2 hown2 hb2 z1 z2 z3
  go_wp2_with fail
  go_loopw [22] (fun i wr => ∃ (k : Nat) (l : List Nat), k ≤ n ∧ i = .int .i64 k ∧ l.length = n ∧ (∀ t, t < k → l[t]? = some t) ∧ wr.ownsRow W 3 1 (.slice (some ⟨W, 0, none⟩) n n) n (l.map vK) ∧ Below W w0 wr) (fun i _ => n - (intOf i).toNat)
  case atStart => exact ⟨0, List.replicate n 0, Nat.zero_le _, rfl, by simp, fun t ht => by omega, HOWN.out, HB2.out⟩
  case round =>
    clear HOWN HB2
    obtain ⟨k, l, hk, rfl, hll, hlt, hown, hbl⟩ := hrel
    by_cases hkn : k < n
    · obtain ⟨c0, cf⟩ := ownK hown (k := k) (by omega)
      obtain ⟨z, hz⟩ : ∃ z : Nat, z = l.getD k 0 := ⟨_, rfl⟩
      rw [← hz] at c0
      have hs := ownK_set hown k k
      have hbs := hbl.setCell (p := ⟨W, k, none⟩) (Nat.le_refl _) (.int .i64 (k : Int))
      have hl2 : ∀ t, t < k + 1 → (l.set k k)[t]? = some t := fun t ht => by
        rw [List.getElem?_set]
        by_cases e : k = t
        · subst e; rw [if_pos rfl, if_pos (by omega)]
        · rw [if_neg e]; exact hlt t (by omega)
      have HS := Lib.hid hs
      have HBS := Lib.hid hbs
      have HL2 := Lib.hid hl2
      have HLL := Lib.hid hll
      have k0 : (0 : Int) ≤ (k : Int) := by omega
      have k1 : (k : Int) < (n : Int) := by omega
      clear hz hs hbs hl2 hll hlt hown hbl
      go_wp2_with fail
      go_roundw
      case rel => exact ⟨k + 1, l.set k k, hkn, by go_num, by rw [List.length_set]; exact HLL.out, HL2.out, HS.out, HBS.out⟩
      case measure => simp [intOf] <;> omega
    · obtain rfl : k = n := by omega
      have hlr : l = List.range k := by
        apply List.ext_getElem?
        intro t
        by_cases ht : t < k
        · rw [hlt t ht, List.getElem?_range ht]
        · rw [List.getElem?_eq_none (by omega), List.getElem?_eq_none (by simp; omega)]
      have m1 : IntKind.i64.wrap ((k : Int) - 1) = (k : Int) - 1 := IntWalk.i64_in _ (by omega)
      obtain ⟨wA, rfl⟩ : ∃ x, x = wr := ⟨_, rfl⟩
      rw [hlr] at hown
      have HOWN := Lib.hid hown
      have HBL := Lib.hid hbl
      clear hlr hlt hll hkn hown hbl hk
      go_wp2_with fail
      go_loopw [8] (fun i wr => ∃ (m : Nat) (l : List Nat), m ≤ k ∧ i = .int .i64 ((m : Int) - 1) ∧ l.length = k ∧ ordGo d (m - 1) l = orderOf d k ∧ wr.ownsRow W 3 1 (.slice (some ⟨W, 0, none⟩) k k) k (l.map vK) ∧ Below W w0 wr) (fun i _ => (intOf i + 1).toNat)
      case atStart => exact ⟨k, List.range k, Nat.le_refl _, rfl, by simp, rfl, HOWN.out, HBL.out⟩
      case round =>
        clear HOWN HBL m1
        obtain ⟨m, l, hm, rfl, hll, hgo, hown, hbl⟩ := hrel
        by_cases hm2 : 2 ≤ m
        · obtain ⟨q, rfl⟩ : ∃ q, m = q + 1 := ⟨m - 1, by omega⟩
          have hqi : ((q + 1 : Nat) : Int) - 1 = (q : Int) := by omega
          rw [hqi]
          have hgo2 : ordGo d (q - 1) (swp l q (ordAt d q)) = orderOf d k := by
            rw [← hgo]
            obtain ⟨r, rfl⟩ : ∃ r, q = r + 1 := ⟨q - 1, by omega⟩
            rfl
          have hq1 : 1 ≤ q := by omega
          have hqk : q < k := by omega
          have q0i : (0 : Int) < (q : Int) := by omega
          obtain ⟨wB, rfl⟩ : ∃ x, x = wr := ⟨_, rfl⟩
          obtain ⟨E, hE⟩ : ∃ E, E = wB.heap.size := ⟨_, rfl⟩
          have hWE : W < E := by rw [hE]; exact (hown.lt W rfl).2
          have e0 : (q : Int) / 16777216 % 256 = ((beB 4 q 0).toNat : Int) := by unfold beB; rw [UInt8.toNat_ofNat']; omega
          have e1 : (q : Int) / 65536 % 256 = ((beB 4 q 1).toNat : Int) := by unfold beB; rw [UInt8.toNat_ofNat']; omega
          have e2 : (q : Int) / 256 % 256 = ((beB 4 q 2).toNat : Int) := by unfold beB; rw [UInt8.toNat_ofNat']; omega
          have e3 : (q : Int) % 256 = ((beB 4 q 3).toNat : Int) := by unfold beB; rw [UInt8.toNat_ofNat']; omega
          have f0 : (q : Int) / 16777216 = ((beB 4 q 0).toNat : Int) := by rw [← e0]; omega
          have f1 : (q : Int) / 65536 = ((beB 4 q 1).toNat : Int) := by rw [← e1]; omega
          have f2 : (q : Int) / 256 = ((beB 4 q 2).toNat : Int) := by rw [← e2]; omega
          have e4 : IntKind.i64.wrap ((q : Int) + 1) = (q : Int) + 1 := IntWalk.i64_in _ (by omega)
          have o1 : (wB.alloc (.cells #[.int .u8 16] 5)).ownsRow E 5 1 (.slice (some ⟨E, 0, none⟩) 1 1) 1 ([(16 : UInt8)].map vB) := by rw [hE]; exact own_byte1 _ 16 _ (Nat.le_refl _)
          have bE : Below E wB (wB.alloc (.cells #[.int .u8 16] 5)) := by rw [hE]; exact (Below.refl _ _).alloc (Nat.le_refl _) _
          have rd1 : Rd (wB.alloc (.cells #[.int .u8 16] 5)) (some ⟨H, 0, none⟩) 23 (d.map vB) := by
            have h1 : wB.heap[H]? = some (.cells (dV d) 23 (0, 0)) := (hbl.block H hH0).trans G0.out
            refine Rd.alloc (.inr ⟨H, 0, dV d, (0, 0), rfl, h1, fun i hi => ?_⟩) _
            have hi2 : i < d.length := by simpa using hi
            rw [Nat.zero_add, dV_get hi2]; simp [vB]
          have O1 := Lib.hid o1
          have BE := Lib.hid bE
          have RD1 := Lib.hid rd1
          have HE := Lib.hid hE
          have HO := Lib.hid hown
          have HBL := Lib.hid hbl
          have HGO := Lib.hid hgo2
          have HLL := Lib.hid hll
          have ROB := Lib.hid (RO.out.at_ (show Below w0.heap.size w0 wB by rw [← HW.out]; exact hbl))
          have sE : E ≤ (wB.alloc (.cells #[.int .u8 16] 5)).heap.size := by rw [World.size_alloc]; omega
          clear o1 bE rd1 hE hown hbl hgo hgo2 hll hqi hm hm2
          go_wp2_with (first
            | (at_builtin; rw [← HE.out]; refine appAllw 24 5 (.int .u8 0) 1 1 Tryd.underlying24 info_byte rfl (by omega) rfl (.tmp 36) (.tmp 37) (by rfl) E _ 1 _ (by rfl) O1.out (some ⟨H, 0, none⟩) 32 32 (d.map vB) (by rfl) _ RD1.out (by rw [List.length_map]; exact HD.out) (one_bytes d) (by omega) (by omega) sE ?_; intro av3 cp3 w3 hown3 hb3; rw [← List.map_append] at hown3; have O3 := Lib.hid hown3; have B3 := Lib.hid (BE.out.trans hb3); have s3 := Nat.le_trans sE hb3.size; clear hown3 hb3)
            | (at_builtin; refine appAllw 24 5 (.int .u8 0) 1 1 Tryd.underlying24 info_byte rfl (by omega) rfl (.tmp 39) (.tmp 51) (by rfl) E _ 33 _ (by rfl) (O3.out.alloc _) (some ⟨w3.heap.size, 0, none⟩) 4 4 ((beS 4 q).map vB) (by rfl) _ (Rd.new w3 #[.int .u8 (beB 4 q 0).toNat, .int .u8 (beB 4 q 1).toNat, .int .u8 (beB 4 q 2).toNat, .int .u8 (beB 4 q 3).toNat] 5) (by rw [List.length_map, beS_length]) (one_bytes _) (by omega) (by omega) (by rw [World.size_alloc]; omega) ?_; intro av5 cp5 w5 hown5 hb5; rw [← List.map_append] at hown5; have O5 := Lib.hid hown5; have B5 := Lib.hid (B3.out.trans (Below.trans ((Below.refl _ w3).alloc s3 _) hb5)); have s5 := hb5.size; clear hown5 hb5))
          have hown5 := (own_below HO.out (show Below wB.heap.size wB w5 by rw [← HE.out]; exact B5.out))
          have b5 : Below W w0 w5 := HBL.out.trans (B5.out.mono (by omega))
          have SC := Sha_calls (ordText d q) av5 cp5 _ w5 (Rd.of_own O5.out) (by rw [ordText_length d q HD.out]; omega) (ROB.out.at_ (show Below wB.heap.size wB w5 by rw [← HE.out]; exact B5.out)) (ROB.out.at_ (show Below wB.heap.size wB w5 by rw [← HE.out]; exact B5.out)).lt
          rw [ordText_length d q HD.out] at SC
          have HSC := Lib.hid SC
          have HO5 := Lib.hid hown5
          have B5W := Lib.hid b5
          clear SC hown5 b5 O3 B3 O1 BE RD1 HO HBL B5 O5 e0 e1 e2 e3 f0 f1 f2 sE s3 s5 ROB
          refine HSC.out.mono ?_
          rintro e w6 ⟨rfl, hb6⟩
          have PC := pick_calls (shaOf (ordText d q)) (shaOf_length _) (q + 1) (by omega) w6
          rw [Int.natCast_add] at PC
          have HPC := Lib.hid PC
          have HO6 := Lib.hid (own_below HO5.out hb6)
          have hW5 := (HO5.out.lt W rfl).2
          have B6W := Lib.hid (B5W.out.trans (hb6.mono (by omega)))
          clear PC HSC hb6 HO5 B5W
          go_wp2_with fail
          refine HPC.out.mono ?_
          rintro e w7 ⟨rfl, hb7⟩
          have hW6 := (HO6.out.lt W rfl).2
          have hown7 := own_below HO6.out hb7
          have hbl7 := B6W.out.trans (hb7.mono (by omega))
          obtain ⟨j, hj⟩ : ∃ j, j = ordAt d q := ⟨_, rfl⟩
          have hje : pickN (shaOf (ordText d q)) (q + 1) = j := by rw [hj]; rfl
          have hjq : j < q + 1 := by rw [hj]; exact ordAt_lt d q
          have hjk : j < k := by omega
          rw [hje]
          obtain ⟨cq, fq⟩ := ownK hown7 (k := q) (by rw [HLL.out]; exact hqk)
          obtain ⟨cj, fj⟩ := ownK hown7 (k := j) (by rw [HLL.out]; exact hjk)
          obtain ⟨x, hx⟩ : ∃ x, x = l.getD q 0 := ⟨_, rfl⟩
          obtain ⟨y, hy⟩ : ∃ y, y = l.getD j 0 := ⟨_, rfl⟩
          rw [← hx] at cq
          rw [← hy] at cj
          have hs : ((w7.setCell ⟨W, q, none⟩ (.int .i64 (y : Int))).setCell ⟨W, j, none⟩ (.int .i64 (x : Int))).ownsRow W 3 1 (.slice (some ⟨W, 0, none⟩) k k) k ((swp l q (ordAt d q)).map vK) := by
            have := ownK_set (ownK_set hown7 q y) j x
            rw [hx, hy, hj] at this ⊢
            exact this
          have hbs : Below W w0 ((w7.setCell ⟨W, q, none⟩ (.int .i64 (y : Int))).setCell ⟨W, j, none⟩ (.int .i64 (x : Int))) := (hbl7.setCell (p := ⟨W, q, none⟩) (Nat.le_refl _) _).setCell (p := ⟨W, j, none⟩) (Nat.le_refl _) _
          obtain ⟨v2, hv2⟩ := cell?_setCell_some (w := w7) (p := ⟨W, q, none⟩) (x := .int .i64 (y : Int)) (q := ⟨W, j, none⟩) (v := .int .i64 (y : Int)) cj
          obtain ⟨v3, hv3⟩ := cell?_setCell_some (w := w7) (p := ⟨W, j, none⟩) (x := .int .i64 (x : Int)) (q := ⟨W, q, none⟩) (v := .int .i64 (x : Int)) cq
          have HS := Lib.hid hs
          have HBS := Lib.hid hbs
          have j0 : (0 : Int) ≤ (j : Int) := by omega
          have jk : (j : Int) < (k : Int) := by omega
          have qk : (q : Int) < (k : Int) := by omega
          have q00 : (0 : Int) ≤ (q : Int) := by omega
          clear HPC hb7 hown7 hbl7 hje hj hx hy hs hbs HO6 B6W
          go_wp2_with fail
          go_region
          obtain ⟨w8, hw8⟩ : ∃ w8, w8 = ((w7.setCell ⟨W, q, none⟩ (.int .i64 (y : Int))).setCell ⟨W, j, none⟩ (.int .i64 (x : Int))).drew := ⟨_, rfl⟩
          have HS8 : Hid (w8.ownsRow W 3 1 (.slice (some ⟨W, 0, none⟩) k k) k ((swp l q (ordAt d q)).map vK)) := Lib.hid (by rw [hw8]; exact HS.out.drew)
          have HB8 : Hid (Below W w0 w8) := Lib.hid (by rw [hw8]; exact HBS.out.drew)
          rw [← hw8]
          clear hw8 HS HBS hv2 hv3 cq fq cj fj
          go_wp2_with fail
          go_roundw
          case rel => exact ⟨q, swp l q (ordAt d q), by omega, rfl, by rw [swp_length]; exact HLL.out, HGO.out, HS8.out, HB8.out⟩
          case measure => simp only [intOf]; omega
        · have hm1 : m - 1 = 0 := by omega
          rw [hm1] at hgo
          have hlo : l = orderOf d k := hgo
          have hmi : (m : Int) - 1 ≤ 0 := by omega
          obtain ⟨M, hM⟩ : ∃ M : Int, M = (m : Int) - 1 := ⟨_, rfl⟩
          rw [← hM] at hmi ⊢
          have qm : decide (0 < M) = false := decide_eq_false (by omega)
          have HO := Lib.hid hown
          have HBL := Lib.hid hbl
          have HL := Lib.hid hlo
          clear hgo hlo hown hbl hm1 hM hll hm hm2
          go_wp2_with fail
          go_ret2
          have hkl := orderOf_length d k
          have hWH : w.heap.size ≤ W := by rw [← HH.out]; omega
          refine ⟨some ⟨W, 0, none⟩, k, by rw [hkl]; rfl, ?_, ?_⟩
          · rw [hkl]
            have := HO.out.mono hWH
            rw [HL.out] at this
            exact this
          · have := B0.out.trans (HBL.out.mono (by omega))
            rw [HH.out] at this
            exact this
end Go.Proofs.YtgngbmmmoecohaaDoor
