/- Walks: the places that bytes have in a sieve, one behind the other (a range over a function). -/
import Derived.Test.YteikbbdkpeecaaaDoorSieveLaw
import Derived.Test.YteikbbdkpeecaaaDoorVow
import Derived.RangeFuncNested
import Derived.RangeFuncBound
import Derived.RangeFuncCalls
import Derived.RangeFuncLeaves
import Derived.Shelf.Abstract
import Derived.Shelf.RegionOpen
import Derived.WalkKit
import Derived.OwnWalkIn
import Derived.TacticsInMore
import Derived.LoopNIn
import Derived.LoopIn
import Derived.Deep.CutBlock
namespace Go.Proofs.YteikbbdkpeecaaaDoor
open Go.RowKit Go.Shelf
set_option linter.unusedVariables false
set_option linter.unusedSimpArgs false
attribute [local go_sem] Oper.semAt_some
/-- all below B, but block Z, is as it was -/
def ButOne (B Z : Nat) (w w' : World) : Prop := w.heap.size ≤ w'.heap.size ∧ ∀ k, k < B → k ≠ Z → w'.heap[k]? = w.heap[k]?
theorem ButOne.refl (B Z : Nat) (w : World) : ButOne B Z w w := ⟨Nat.le_refl _, fun _ _ _ => rfl⟩
theorem ButOne.trans {B Z : Nat} {a b c : World} (h : ButOne B Z a b) (k : ButOne B Z b c) : ButOne B Z a c := ⟨Nat.le_trans h.1 k.1, fun i hi hz => (k.2 i hi hz).trans (h.2 i hi hz)⟩
theorem ButOne.of_below {B D Z : Nat} {w w' : World} (h : Below D w w') (hB : B ≤ D) : ButOne B Z w w' := ⟨h.size, fun k hk _ => h.block k (by omega)⟩
theorem ButOne.cell {B Z : Nat} {w w' : World} (h : ButOne B Z w w') {p : Addr} (hp : p.block < B) (hz : p.block ≠ Z) : w'.cell? p = w.cell? p := World.cell?_of_block (w := w) (h.2 p.block hp hz)
theorem grown_of_below {w w' : World} (h : Below w.heap.size w w') : w.grownBy w' none := ⟨h.os, h.tape, h.output, h.size, fun k hk _ => h.block k hk⟩
theorem butOne_b {B Z : Nat} {w : World} (hn : B ≤ w.heap.size) (W : World) (l : Nat) (o o' : Obj) (hl : w.heap.size ≤ l) (h : W.heap[l]? = some o) (h1 : o.isCells = false) (h2 : o.isWalk = false) : ButOne B Z W (W.putObj l o') :=
  ButOne.of_below (belowK_b (w := w) hn W l o o' hl h h1 h2) (Nat.le_refl _)
/-- a place in a sieve of L bytes -/
abbrev PL (L : Nat) : Type := { p : Nat // p < 8 * L }
def placesS (L : Nat) (h : 0 < L) (K : Nat) (b : List UInt8) : List (PL L) := (List.range K).map fun i => ⟨sAt L b i, sAt_lt L h b i⟩
theorem placesS_map (L : Nat) (h : 0 < L) (K : Nat) (b : List UInt8) : (placesS L h K b).map (·.1) = placesOf L K b := by unfold placesS placesOf; rw [List.map_map]; rfl
theorem placesS_length (L : Nat) (h : 0 < L) (K : Nat) (b : List UInt8) : (placesS L h K b).length = K := by simp [placesS]
theorem placesS_take (L : Nat) (h : 0 < L) (K k : Nat) (hk : k ≤ K) (b : List UInt8) : (placesS L h K b).take k = placesS L h k b := by
  unfold placesS
  rw [← List.map_take, List.take_range, Nat.min_eq_left hk]
theorem placesS_succ (L : Nat) (h : 0 < L) (k : Nat) (b : List UInt8) : placesS L h (k + 1) b = placesS L h k b ++ [⟨sAt L b k, sAt_lt L h b k⟩] := by
  unfold placesS; rw [List.range_succ, List.map_append]; rfl
/-- what the iterator reads -/
structure PlacesAt (B Z Bs Bb : Nat) (L K : Nat) (b : List UInt8) (sa : Option Addr) (sc : Nat) (ab : Option Addr) (cb eb : Nat) (w : World) : Prop where
  sl : w.cell? ⟨Bs, 0, none⟩ = some (.slice sa L sc)
  sk : w.cell? ⟨Bs, 1, none⟩ = some (.int .i64 (K : Int))
  bb : w.cell? ⟨Bb, 0, none⟩ = some (.slice ab b.length cb)
  rd : Rd w ab eb (b.map vB)
  ro : RoundsAt w
theorem PlacesAt.keep {B Z Bs Bb L K : Nat} {b : List UInt8} {sa : Option Addr} {sc : Nat} {ab : Option Addr} {cb eb : Nat} {w w' : World} (h : PlacesAt B Z Bs Bb L K b sa sc ab cb eb w) (hk : ButOne B Z w w') (hs : Bs < B) (hsz : Bs ≠ Z) (hb : Bb < B) (hbz : Bb ≠ Z) (hg : 1 < B) (hgz : 1 ≠ Z) (ha : b = [] ∨ ∀ x, ab = some x → x.block < B ∧ x.block ≠ Z) : PlacesAt B Z Bs Bb L K b sa sc ab cb eb w' := by
  refine ⟨(hk.cell (p := ⟨Bs, 0, none⟩) hs hsz).trans h.sl, (hk.cell (p := ⟨Bs, 1, none⟩) hs hsz).trans h.sk, (hk.cell (p := ⟨Bb, 0, none⟩) hb hbz).trans h.bb, ?_, ?_⟩
  · rcases ha with ha | ha
    · left; rw [ha]; rfl
    · exact h.rd.of_block fun x hx _ => hk.2 _ (ha x hx).1 (ha x hx).2
  · obtain ⟨t, f, hr⟩ := h.ro
    exact ⟨t, f, (hk.2 _ hg hgz).trans hr⟩
theorem places_calls (v0 v1 : Value) (ab : Option Addr) (nb cb : Nat) (w : World) : Calls Tryd.prog 31 #[.agg #[v0, v1], .slice ab nb cb] w fun e w' => e = .returned (.func (.func 47) #[] #[.pointer (some ⟨w.heap.size, 0, none⟩), .pointer (some ⟨w.heap.size + 1, 0, none⟩)]) ∧ (w.alloc (.cells #[v0, v1] 24)).alloc (.cells #[.slice ab nb cb] 22) = w' := by
  go_enter Tryd.func31, Tryd.ntmps31
  go_wp2_with fail
  go_ret
  exact ⟨rfl, rfl⟩
set_option maxRecDepth 100000 in
set_option maxHeartbeats 4000000 in
theorem places1_in (n : Nat) (hn : 1 ≤ n) (l B Z Bs Bb L K : Nat) (hL0 : 0 < L) (hL : L ≤ 1024) (hK : K ≤ 8) (b : List UInt8) (hbl : b.length ≤ 140737488351232) (sa : Option Addr) (sc : Nat) (ab : Option Addr) (cb eb : Nat) (hs : Bs < B) (hsz : Bs ≠ Z) (hb : Bb < B) (hbz : Bb ≠ Z) (hg : 1 < B) (hgz : 1 ≠ Z) (ha : b = [] ∨ ∀ x, ab = some x → x.block < B ∧ x.block ≠ Z)
    (J Jx : List (PL L) → World → Prop) (W : World) (hBW : B ≤ W.heap.size) (hJ : AbidesFrom W.heap.size J)
    (hY : ∀ pre x W1, J pre W1 → pre.length < K → YieldAt Fence.wide (n - 1) Tryd.prog l #[.int .i64 (x.1 : Int)] W1 fun e W' =>
      (e = .returned (.bool true) ∧ J (pre ++ [x]) W' ∧ ButOne B Z W1 W') ∨ (e = .returned (.bool false) ∧ Jx (pre ++ [x]) W'))
    (hp : PlacesAt B Z Bs Bb L K b sa sc ab cb eb W) (h0 : J [] W) :
    CallsIn Fence.wide n Tryd.prog 47 #[.func (.yield l) #[] #[], .pointer (some ⟨Bs, 0, none⟩), .pointer (some ⟨Bb, 0, none⟩)] W fun e W' => (∃ v, e = .returned v) ∧
      ((∃ ys, ys = placesS L hL0 K b ∧ J ys W') ∨ (∃ pre, pre <+: placesS L hL0 K b ∧ Jx pre W')) := by
  have HY := Lib.hid hY
  have HJ := Lib.hid hJ
  have HA := Lib.hid ha
  have HP := Lib.hid hp
  have H0 := Lib.hid h0
  have c1 := hp.sk
  clear hY hJ ha hp h0
  refine callsIn_of_wp Tryd.func47 rfl trivial ?_ rfl
  simp only [Tryd.ntmps47, List.size_toArray, List.length_cons, List.length_nil, Nat.reduceAdd, Nat.reduceSub, Array.replicate_succ, Array.replicate_zero, List.push_toArray, List.append_toArray, List.nil_append, List.cons_append]
  refine wpIn_wide.2 ?_
  go_wp2_with fail
  clear c1
  go_loopw [9] (fun i wr => ∃ k : Nat, k ≤ K ∧ i = .int .i64 k ∧ J (placesS L hL0 k b) wr ∧ W.heap.size ≤ wr.heap.size ∧ PlacesAt B Z Bs Bb L K b sa sc ab cb eb wr) (fun i _ => K - (intOf i).toNat)
  case atStart => exact ⟨0, Nat.zero_le _, rfl, H0.out, Nat.le_refl _, HP.out⟩
  case round =>
    obtain ⟨k, hk, rfl, hJs, hws, hpa⟩ := hrel
    by_cases hlt : k < K
    · obtain ⟨wB, rfl⟩ : ∃ x, x = wr := ⟨_, rfl⟩
      obtain ⟨E, hE⟩ : ∃ E, E = wB.heap.size := ⟨_, rfl⟩
      have hWE : W.heap.size ≤ E := by omega
      have ek : (k : Int) % 256 = ((UInt8.ofNat k).toNat : Int) := by rw [UInt8.toNat_ofNat']; omega
      have ek2 : (k : Int) = ((UInt8.ofNat k).toNat : Int) := by rw [UInt8.toNat_ofNat']; omega
      obtain ⟨X, hX⟩ : ∃ X, X = UInt8.ofNat k := ⟨_, rfl⟩
      rw [← hX] at ek2
      clear ek
      have o1 : (wB.alloc (.cells #[.int .u8 17, .int .u8 (k : Int)] 5)).ownsRow E 5 1 (.slice (some ⟨E, 0, none⟩) 2 2) 2 ([(17 : UInt8), X].map vB) := by
        rw [hE, ek2]; exact World.ownsRow_lit (base := wB.heap.size) (e := 5) (size := 1) wB #[.int .u8 17, .int .u8 X.toNat] 2 (Nat.le_refl _) (by simp only [maxLen]; decide) rfl
      have bE : Below E wB (wB.alloc (.cells #[.int .u8 17, .int .u8 (k : Int)] 5)) := by rw [hE]; exact (Below.refl _ _).alloc (Nat.le_refl _) _
      have sE : E ≤ (wB.alloc (.cells #[.int .u8 17, .int .u8 (k : Int)] 5)).heap.size := by rw [World.size_alloc]; omega
      have c2 := hpa.bb
      have c2b := (show Below wB.heap.size wB _ by rw [← hE]; exact bE).cell (p := ⟨Bb, 0, none⟩) (by show Bb < wB.heap.size; omega) |>.trans c2
      have rd := hpa.rd.below (show Below wB.heap.size wB _ by rw [← hE]; exact bE)
      have HE := Lib.hid hE
      have HX := Lib.hid hX
      have O1 := Lib.hid o1
      have BE := Lib.hid bE
      have RD := Lib.hid rd
      have HPA := Lib.hid hpa
      have HJS := Lib.hid hJs
      have EK := Lib.hid ek2
      have k0 : (0 : Int) ≤ (k : Int) := by omega
      have kK : (k : Int) < (K : Int) := by omega
      clear hE hX o1 bE rd hpa hJs c2 ek2
      go_upto_region 4 with (at_builtin; rw [← HE.out]; refine appAllw 22 5 (.int .u8 0) 1 1 Tryd.underlying22 info_byte rfl (by omega) rfl (.tmp 14) (.tmp 15) (by rfl) E _ 2 _ (by rfl) O1.out ab b.length cb (b.map vB) (by rfl) _ RD.out (by simp) (one_bytes b) (by omega) (by omega) sE ?_; intro av3 cp3 w3 hown3 hb3; rw [← List.map_append] at hown3; have O3 := Lib.hid hown3; have B3 := Lib.hid (BE.out.trans hb3); have s3' := Nat.le_trans sE hb3.size; clear hown3 hb3)
      have hlen : (sTxt k b).length = 2 + b.length := by rw [sTxt_length]; omega
      have r3 := Rd.of_own O3.out
      rw [HX.out] at r3
      have SC := Sha_calls (sTxt k b) av3 cp3 _ w3 r3 (by rw [hlen]; omega) (HPA.out.ro.at_ (show Below wB.heap.size wB w3 by rw [← HE.out]; exact B3.out)) (HPA.out.ro.at_ (show Below wB.heap.size wB w3 by rw [← HE.out]; exact B3.out)).lt
      rw [hlen] at SC
      have HSC := Lib.hid SC
      clear SC r3 hlen O1 BE RD
      refine HSC.out.mono ?_
      rintro e w4 ⟨rfl, hb4⟩
      obtain ⟨D, hD⟩ : ∃ D, D = shaOf (sTxt k b) := ⟨_, rfl⟩
      have hDl : D.length = 32 := by rw [hD]; exact shaOf_length _
      rw [← hD]
      obtain ⟨w5, hw5⟩ : ∃ x, x = w4.alloc (.cells (dV D) 55) := ⟨_, rfl⟩
      have b45 : Below w4.heap.size w4 w5 := by rw [hw5]; exact (Below.refl _ _).alloc (Nat.le_refl _) _
      have hs4 := hb4.size
      have b5 : Below E wB w5 := B3.out.trans ((hb4.trans (b45.mono hs4)).mono s3')
      obtain ⟨Y, hY⟩ : ∃ Y, Y = w4.heap.size := ⟨_, rfl⟩
      have gY : w5.heap[Y]? = some (.cells (dV D) 55 (0, 0)) := by rw [hw5, hY]; exact heap_alloc_new _ _
      have HDL := Lib.hid hDl
      have HDD := Lib.hid hD
      have HW5 := Lib.hid hw5
      have HYY := Lib.hid hY
      have GY := Lib.hid gY
      have B5 := Lib.hid b5
      clear hDl hD hw5 hY gY b5 b45 hb4 hs4 HSC O3 B3
      go_upto_region 4 with (refine st_new rfl (.tmp 5) (.tmp 17) rfl D HDL.out (by rfl) _ _ (by rfl) (by rfl) ?_)
      rw [← HW5.out, ← HYY.out]
      have y0 := cellD GY.out 0 (by rw [HDL.out]; omega)
      have y1 := cellD GY.out 1 (by rw [HDL.out]; omega)
      have y2 := cellD GY.out 2 (by rw [HDL.out]; omega)
      have y3 := cellD GY.out 3 (by rw [HDL.out]; omega)
      have ht := take4 D HDL.out
      obtain ⟨z0, h0⟩ : ∃ y, y = D[0]'(by rw [HDL.out]; omega) := ⟨_, rfl⟩
      obtain ⟨z1, h1⟩ : ∃ y, y = D[1]'(by rw [HDL.out]; omega) := ⟨_, rfl⟩
      obtain ⟨z2, h2⟩ : ∃ y, y = D[2]'(by rw [HDL.out]; omega) := ⟨_, rfl⟩
      obtain ⟨z3, h3⟩ : ∃ y, y = D[3]'(by rw [HDL.out]; omega) := ⟨_, rfl⟩
      rw [← h0] at y0 ht
      rw [← h1] at y1 ht
      rw [← h2] at y2 ht
      rw [← h3] at y3 ht
      have v0 : IntKind.u32.wrap (z0.toNat : Int) = ((wb z0).toNat : Int) := by rw [wb_toNat]; exact IntWalk.u32_in _ (by have := z0.toNat_lt; omega)
      have v1 : IntKind.u32.wrap (z1.toNat : Int) = ((wb z1).toNat : Int) := by rw [wb_toNat]; exact IntWalk.u32_in _ (by have := z1.toNat_lt; omega)
      have v2 : IntKind.u32.wrap (z2.toNat : Int) = ((wb z2).toNat : Int) := by rw [wb_toNat]; exact IntWalk.u32_in _ (by have := z2.toNat_lt; omega)
      have v3 : IntKind.u32.wrap (z3.toNat : Int) = ((wb z3).toNat : Int) := by rw [wb_toNat]; exact IntWalk.u32_in _ (by have := z3.toNat_lt; omega)
      have x0 : IntKind.u32.wrap (((wb z0).toNat : Int) * 16777216) = ((shl (wb z0) 24).toNat : Int) := r_shl (wb z0) 24
      have x1 : IntKind.u32.wrap (((wb z1).toNat : Int) * 65536) = ((shl (wb z1) 16).toNat : Int) := r_shl (wb z1) 16
      have x2 : IntKind.u32.wrap (((wb z2).toNat : Int) * 256) = ((shl (wb z2) 8).toNat : Int) := r_shl (wb z2) 8
      have p1 := r_or (shl (wb z0) 24) (shl (wb z1) 16)
      have p2 := r_or (ou (shl (wb z0) 24) (shl (wb z1) 16)) (shl (wb z2) 8)
      have p3 := r_or (ou (ou (shl (wb z0) 24) (shl (wb z1) 16)) (shl (wb z2) 8)) (wb z3)
      have hw := word_num z0 z1 z2 z3
      obtain ⟨Wd, hWd⟩ : ∃ Wd, Wd = ou (ou (ou (shl (wb z0) 24) (shl (wb z1) 16)) (shl (wb z2) 8)) (wb z3) := ⟨_, rfl⟩
      rw [← hWd] at p3 hw
      have hp9 : Wd.toNat % (8 * L) = sAt L b k := by unfold sAt; rw [hw, ← ht, HDD.out]
      obtain ⟨p, hp⟩ : ∃ p, p = sAt L b k := ⟨_, rfl⟩
      rw [← hp] at hp9
      have hWl := w_lt Wd
      obtain ⟨M, hM⟩ : ∃ M, M = 8 * L := ⟨_, rfl⟩
      rw [← hM] at hp9
      have f1 : IntKind.i64.wrap (Wd.toNat : Int) = (Wd.toNat : Int) := IntWalk.i64_in _ (by omega)
      have f2 : IntKind.i64.wrap (8 * (L : Int)) = (M : Int) := by rw [IntWalk.i64_in _ (by omega)]; omega
      have f2b : 8 * (L : Int) = (M : Int) := by omega
      have f3 : (Wd.toNat : Int) % (M : Int) = (p : Int) := by rw [← hp9, Int.natCast_emod]
      have f4 : (Wd.toNat : Int).tmod (M : Int) = (p : Int) := by rw [Int.tmod_eq_emod_of_nonneg (by omega)]; exact f3
      have f5 : ((M : Int) == 0) = false := by rw [beq_eq_false_iff_ne]; omega
      have f6 : ¬ M = 0 := by omega
      have HP9 := Lib.hid hp
      clear h0 h1 h2 h3 ht hw hWd hp hM hp9 HW5 HYY HDD
      go_upto_region 5 with fail
      clear y0 y1 y2 y3 v0 v1 v2 v3 x0 x1 x2 p1 p2 p3
      have hk5 : ButOne B Z wB w5 := ButOne.of_below B5.out (by omega)
      have hpa5 := HPA.out.keep hk5 hs hsz hb hbz hg hgz HA.out
      have hJ5 : J (placesS L hL0 k b) w5 := HJ.out _ _ _ none HJS.out (grown_of_below (by rw [← HE.out]; exact B5.out)) (fun r hr => by cases hr)
      obtain ⟨fn, tmps, assign, body, hy, hR⟩ := HY.out (placesS L hL0 k b) ⟨p, by rw [HP9.out]; exact sAt_lt L hL0 b k⟩ w5 hJ5 (by rw [placesS_length]; exact hlt)
      have hx9 : (⟨p, by rw [HP9.out]; exact sAt_lt L hL0 b k⟩ : PL L) = ⟨sAt L b k, sAt_lt L hL0 b k⟩ := Subtype.ext HP9.out
      have HX9 := Lib.hid hx9
      clear hx9
      dsimp only at hy
      have d1 := hpa5.sl
      have HR := Lib.hid hR
      have HPA5 := Lib.hid hpa5
      have hw5 := Nat.le_trans hWE (Nat.le_trans (by rw [HE.out]; exact Nat.le_refl _) B5.out.size)
      clear hR hpa5 hJ5 hk5 HPA HJS
      refine (wpIn_wide (n := n)).1 ?_
      gi_wp2
      refine HR.out.mono ?_
      rintro e W3 (⟨rfl, hJ3, hk3⟩ | ⟨rfl, hJx3⟩)
      · rw [HX9.out, ← placesS_succ] at hJ3
        have hpa3 := HPA5.out.keep hk3 hs hsz hb hbz hg hgz HA.out
        have hw3 := Nat.le_trans hw5 hk3.1
        have HJ3 := Lib.hid hJ3
        have HPA3 := Lib.hid hpa3
        clear hJ3 hpa3 hk3 HPA5 HR
        gi_wp2
        go_wp2_with fail
        go_roundw
        case rel => exact ⟨k + 1, hlt, by go_num, HJ3.out, hw3, HPA3.out⟩
        case measure => simp [intOf] <;> omega
      · rw [HX9.out, ← placesS_succ] at hJx3
        have HJX := Lib.hid hJx3
        clear hJx3 HPA5 HR
        gi_wp2
        go_wp2_with fail
        refine bodyPost_ret (results_none rfl _ _ _) rfl ?_
        exact ⟨⟨_, rfl⟩, .inr ⟨_, by rw [← placesS_take L hL0 K (k + 1) hlt]; exact List.take_prefix _ _, HJX.out⟩⟩
    · obtain rfl : k = K := by omega
      have HJS := Lib.hid hJs
      clear hJs hpa
      go_wp2_with fail
      go_end0
      exact ⟨⟨_, rfl⟩, .inl ⟨_, rfl, HJS.out⟩⟩
/-- **what sieve.places tells, to range over** -/
theorem places_stops (n : Nat) (hn : 1 ≤ n) (B Z Bs Bb L K : Nat) (hL0 : 0 < L) (hL : L ≤ 1024) (hK : K ≤ 8) (b : List UInt8) (hbl : b.length ≤ 140737488351232) (sa : Option Addr) (sc : Nat) (ab : Option Addr) (cb eb : Nat) (hs : Bs < B) (hsz : Bs ≠ Z) (hb : Bb < B) (hbz : Bb ≠ Z) (hg : 1 < B) (hgz : 1 ≠ Z) (ha : b = [] ∨ ∀ x, ab = some x → x.block < B ∧ x.block ≠ Z)
    (w : World) (hBw : B ≤ w.heap.size) (hp : PlacesAt B Z Bs Bb L K b sa sc ab cb eb w) :
    SeqStopsK Fence.wide n Tryd.prog 47 #[.pointer (some ⟨Bs, 0, none⟩), .pointer (some ⟨Bb, 0, none⟩)] (fun x : PL L => #[Value.int .i64 (x.1 : Int)]) (ButOne B Z) (fun ys => ys = placesS L hL0 K b) (fun pre => pre <+: placesS L hL0 K b) K w := fun l J Jx W hW hJ _ hY h0 =>
  places1_in n hn l B Z Bs Bb L K hL0 hL hK b hbl sa sc ab cb eb hs hsz hb hbz hg hgz ha J Jx W (Nat.le_trans hBw hW.size) hJ hY (hp.keep (ButOne.of_below hW hBw) hs hsz hb hbz hg hgz ha) h0
end Go.Proofs.YteikbbdkpeecaaaDoor
