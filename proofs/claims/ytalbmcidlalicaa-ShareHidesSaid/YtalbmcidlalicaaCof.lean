/- Walk: coefficients tells the polynomial that has given values at given places. -/
import Derived.Test.YtalbmcidlalicaaCofLaw
import Derived.Test.YtalbmcidlalicaaRefMul2
import Derived.Test.YtalbmcidlalicaaSplit
namespace Go.Proofs.Ytalbmcidlalicaa
open Go.RowKit
set_option linter.unusedVariables false

theorem own_byte {w : World} {base g n cap : Nat} {xs : List UInt8} (h : w.ownsRow base 5 1 (.slice (some ⟨g, 0, none⟩) n cap) n (xs.map vB)) (k : Nat) (z : UInt8) :
    (w.setCell ⟨g, k, none⟩ (.int .u8 z.toNat)).ownsRow base 5 1 (.slice (some ⟨g, 0, none⟩) n cap) n ((xs.set k z).map vB) := by
  have := own_set h k (.int .u8 z.toNat)
  rw [List.map_set]; exact this
theorem own_get {w : World} {base g n cap : Nat} {xs : List UInt8} (h : w.ownsRow base 5 1 (.slice (some ⟨g, 0, none⟩) n cap) n (xs.map vB)) {k : Nat} (hk : k < xs.length) :
    w.cell? ⟨g, k, none⟩ = some (.int .u8 xs[k].toNat) ∧ w.frozen? ⟨g, k, none⟩ = false := by
  have := own_cell h (k := k) (by simpa using hk)
  simpa [vB] using this
theorem rep_zero (n : Nat) : List.replicate n (Value.int .u8 0) = (List.replicate n (0 : UInt8)).map vB := by
  rw [List.map_replicate]; rfl

theorem cofs_step (at_ v : List UInt8) (i k : Nat) (hk : k < at_.length) : ((List.range at_.length).map fun q => if q < k then Gf.cofE at_ v (i + 1) q else Gf.cofE at_ v i q).set k (Gf.cofE at_ v (i + 1) k) = (List.range at_.length).map fun q => if q < k + 1 then Gf.cofE at_ v (i + 1) q else Gf.cofE at_ v i q := by
  apply List.ext_getElem
  · simp
  · intro q h1 h2
    rw [List.getElem_set]
    by_cases e : k = q
    · subst e; simp
    · rw [if_neg e]
      simp only [List.getElem_map, List.getElem_range]
      by_cases g : q < k
      · rw [if_pos g, if_pos (by omega)]
      · rw [if_neg g, if_neg (by omega)]
/-- the coefficients while place i is added, k of them done -/
def cofM (at_ v : List UInt8) (i k : Nat) : List UInt8 := (List.range at_.length).map fun q => if q < k then Gf.cofE at_ v (i + 1) q else Gf.cofE at_ v i q
theorem cofM_length (at_ v : List UInt8) (i k : Nat) : (cofM at_ v i k).length = at_.length := by simp [cofM]
theorem cofM_get (at_ v : List UInt8) (i k : Nat) (h : k < (cofM at_ v i k).length) : (cofM at_ v i k)[k] = Gf.cofE at_ v i k := by simp [cofM]
theorem cofM_set (at_ v : List UInt8) (i k : Nat) (hk : k < at_.length) : (cofM at_ v i k).set k (Gf.cofE at_ v (i + 1) k) = cofM at_ v i (k + 1) := cofs_step at_ v i k hk
theorem cofM_zero (at_ v : List UInt8) (i : Nat) : cofM at_ v i 0 = Gf.cofs at_ v i := by simp [cofM, Gf.cofs]
theorem cofM_all (at_ v : List UInt8) (i : Nat) : cofM at_ v i at_.length = Gf.cofs at_ v (i + 1) := by
  unfold cofM Gf.cofs
  refine List.map_congr_left fun q hq => ?_
  rw [if_pos (List.mem_range.1 hq)]

theorem at_xor (a b : UInt8) (w : World) (x : Int) (hx : x = ((Gf.add a b).toNat : Int)) (c : UInt8) : Calls Try.prog 25 #[.int .u8 c.toNat, .int .u8 x] w fun e w' => e = .returned (.int .u8 (Gf.mul c (Gf.add a b)).toNat) ∧ w = w' := by
  subst hx; exact RefMul_calls _ _ _

set_option maxRecDepth 20000 in
set_option maxHeartbeats 8000000 in
theorem Coef_calls (at_ v : List UInt8) (a b : Option Addr) (ca ea cb eb : Nat) (w : World) (ha : Rd w a ea (at_.map vB)) (hb : Rd w b eb (v.map vB)) (hl : v.length = at_.length) (hn : at_.length ≤ 1000) :
    Calls Try.prog 16 #[.slice a at_.length ca, .slice b v.length cb] w (RetB w (Gf.cofs at_ v at_.length)) := by
  obtain ⟨i0, hi0, hz0, hs0, hb0⟩ := info_parts info_u8
  have Hl := Lib.hid hl
  clear hl
  obtain ⟨W, hW⟩ : ∃ W, W = w.heap.size := ⟨_, rfl⟩
  have HW := Lib.hid hW
  go_enter Try.func16, Try.ntmps16
  go_wp2_with (at_make; refine wpList_make_full _ rfl _ _ 30 rfl w.heap.size 5 i0 (.int .u8 0) 1 Try.underlying30 hi0 hz0 hs0 _ _ _ _ at_.length rfl rfl rfl rfl ?c1 ?c2 ?c3 ?_)
  case c1 => rw [hb0]; omega
  case c2 => simp only [maxLen]; omega
  case c3 => exact Nat.le_refl _
  intro w2 hown2 hgrow2
  rw [made_one, rep_zero] at hown2
  have hbl2 : Below w.heap.size w w2 := (Below.refl _ w).grown hgrow2 (Nat.le_refl _) (fun k hk => by cases hk)
  have hsz2 : w.heap.size < w2.heap.size := by have := (hown2.lt w.heap.size rfl).2; exact this
  clear hgrow2
  have hrep : List.replicate at_.length (0 : UInt8) = Gf.cofs at_ v 0 := by
    apply List.ext_getElem
    · simp [Gf.cofs_length]
    · intro i _ _; simp [Gf.cofs, Gf.cofE]
  rw [hrep] at hown2
  clear hrep
  rw [← hW] at hown2 ⊢
  go_wp2_with fail
  go_loopw [6] (fun i wr => ∃ k : Nat, k ≤ at_.length ∧ i = .int .i64 k ∧ wr.ownsRow W 5 1 (.slice (some ⟨W, 0, none⟩) at_.length at_.length) at_.length ((Gf.cofs at_ v k).map vB) ∧ Below w.heap.size w wr) (fun i _ => at_.length - (intOf i).toNat)
  case atStart => exact ⟨0, Nat.zero_le _, rfl, hown2, hbl2⟩
  case round =>
    obtain ⟨i, hi, rfl, hown, hbl⟩ := hrel
    by_cases hlt : i < at_.length
    · have hsz : W < wr.heap.size := (hown.lt W rfl).2
      have i0' : (0 : Int) ≤ (i : Int) := by omega
      have i1 : (i : Int) < (at_.length : Int) := by omega
      have i2 : (i : Int) < (v.length : Int) := by rw [Hl.out]; omega
      clear hW hown2 hbl2 hsz2
      go_wp2_with fail
      obtain ⟨wo, rfl⟩ : ∃ wo : World, wo = wr := ⟨_, rfl⟩
      go_loopw [7, 8, 9] (fun c x j wr => ∃ k : Nat, k ≤ at_.length ∧ j = .int .i64 k ∧ x = .int .u8 (Gf.wj at_ i k).toNat ∧ wr.ownsRow (W + 1) 5 1 c (Gf.cj at_ i k).length ((Gf.cj at_ i k).map vB) ∧ Below wo.heap.size wo wr) (fun _ _ j _ => at_.length - (intOf j).toNat)
      case atStart => exact ⟨0, Nat.zero_le _, rfl, rfl, own_new1 wo (W + 1) 5 (.int .u8 1) hsz, (Below.refl _ _).alloc (Nat.le_refl _) _⟩
      case round =>
        obtain ⟨j, hj, rfl, rfl, hownc, hbc⟩ := hrel
        have hosz := hbc.size
        obtain ⟨ac, cc, rfl⟩ := own_slice hownc
        by_cases hjl : j < at_.length
        · have j0 : (0 : Int) ≤ (j : Int) := by omega
          have j1 : (j : Int) < (at_.length : Int) := by omega
          by_cases hji : j = i
          · have t : ((j : Int) == (i : Int)) = true := by rw [beq_iff_eq]; omega
            have e1 : Gf.cj at_ i (j + 1) = Gf.cj at_ i j := by simp only [Gf.cj]; rw [if_pos hji]
            have e2 : Gf.wj at_ i (j + 1) = Gf.wj at_ i j := by simp only [Gf.wj]; rw [if_pos hji]
            have E1 := Lib.hid e1
            have E2 := Lib.hid e2
            clear e1 e2 hji
            go_wp2_with fail
            go_roundw
            case rel => exact ⟨j + 1, by omega, by go_num, by rw [E2.out], by rw [E1.out]; exact hownc, hbc⟩
            case measure => simp [intOf] <;> omega
          · have t : ((j : Int) == (i : Int)) = false := by rw [beq_eq_false_iff_ne]; omega
            have e1 : Gf.cj at_ i (j + 1) = Gf.lin (Gf.cj at_ i j) (at_.getD j 0) := by simp only [Gf.cj]; rw [if_neg hji]
            have e2 : Gf.wj at_ i (j + 1) = Gf.mul (Gf.wj at_ i j) (Gf.add (at_.getD i 0) (at_.getD j 0)) := by simp only [Gf.wj]; rw [if_neg hji]
            have hlen : (Gf.cj at_ i j).length ≤ 1 + j := by rw [Gf.cj_length]; omega
            have hbA : Below w.heap.size w wr := hbl.trans (hbc.mono hbl.size)
            obtain ⟨ba, oa, rfl, hba, hca⟩ := ha.bytes hjl
            have c1 : wr.cell? ⟨ba, oa + i, none⟩ = some (.int .u8 (at_.getD i 0).toNat) := by
              rw [List.getD_eq_getElem?_getD, List.getElem?_eq_getElem hlt]
              exact (hbA.cell (p := ⟨ba, oa + i, none⟩) hba).trans (hca i hlt)
            have c2 : wr.cell? ⟨ba, oa + j, none⟩ = some (.int .u8 (at_.getD j 0).toNat) := by
              rw [List.getD_eq_getElem?_getD, List.getElem?_eq_getElem hjl]
              exact (hbA.cell (p := ⟨ba, oa + j, none⟩) hba).trans (hca j hjl)
            clear hca
            have E1 := Lib.hid e1
            have E2 := Lib.hid e2
            have Hji := Lib.hid hji
            clear e1 e2 hji
            generalize Gf.cj at_ i j = c at *
            generalize Gf.wj at_ i j = x at *
            generalize at_.getD i 0 = y at *
            generalize at_.getD j 0 = z at *
            obtain ⟨L, hL⟩ : ∃ L, L = c.length + 1 := ⟨_, rfl⟩
            have hLi : (c.length : Int) + 1 = (L : Int) := by omega
            have HL := Lib.hid hL
            have hL2 : L ≤ 2000 := by omega
            have hL3 : c.length < L := by omega
            clear hL
            go_wp2_with (at_make; refine wpList_make_full _ rfl _ _ 30 rfl (W + 1) 5 i0 (.int .u8 0) 1 Try.underlying30 hi0 hz0 hs0 _ _ _ _ L rfl rfl rfl rfl ?c1 ?c2 ?c3 ?_)
            case c1 => rw [hb0]; omega
            case c2 => simp only [maxLen]; omega
            case c3 => omega
            intro w3 hown3 hgrow3
            rw [made_one, rep_zero] at hown3
            have hbl3 : Below wr.heap.size wr w3 := (Below.refl _ wr).grown hgrow3 (Nat.le_refl _) (fun k hk => by cases hk)
            clear hgrow3 hLi
            rw [HL.out, ← Gf.nxt_zero c z, ← HL.out] at hown3
            obtain ⟨G, hG⟩ : ∃ G, G = wr.heap.size := ⟨_, rfl⟩
            rw [← hG] at hown3 ⊢
            have HG := Lib.hid hG
            clear hG
            go_wp2_with fail
            obtain ⟨wm, rfl⟩ : ∃ wm : World, wm = wr := ⟨_, rfl⟩
            go_loopw [11] (fun k wr => ∃ m : Nat, m ≤ c.length ∧ k = .int .i64 m ∧ wr.ownsRow (W + 1) 5 1 (.slice (some ⟨G, 0, none⟩) L L) L ((Gf.nxt c z m).map vB) ∧ Below wm.heap.size wm wr) (fun k _ => c.length - (intOf k).toNat)
            case atStart => exact ⟨0, Nat.zero_le _, rfl, hown3, hbl3⟩
            case round =>
              obtain ⟨m, hm, rfl, hownn, hbn⟩ := hrel
              by_cases hmc : m < c.length
              · have hstep := Gf.nxt_step c z m hmc
                have hnl : m + 1 < (Gf.nxt c z m).length := by rw [Gf.nxt_length]; omega
                have g1 := own_get hownn (k := m + 1) hnl
                have g0 := own_get hownn (k := m) (by omega)
                obtain ⟨bc, oc, hac, hbc', hcc⟩ := (Rd.of_own hownc).bytes hmc
                subst hac
                have d1 : wr.cell? ⟨bc, oc + m, none⟩ = some (.int .u8 c[m].toNat) := (hbn.cell (p := ⟨bc, oc + m, none⟩) hbc').trans (hcc m hmc)
                have d2 : wr.cell? ⟨ba, oa + j, none⟩ = some (.int .u8 z.toNat) := (hbn.cell (p := ⟨ba, oa + j, none⟩) (by have h1 := hbA.size; show ba < _; omega)).trans c2
                have hGne : bc ≠ G := by rw [HG.out]; omega
                have hbaG : ba ≠ G := by rw [HG.out]; have h1 := hbA.size; omega
                rw [Gf.nxt_get] at g1 g0
                have g1a := g1.1
                have g1b := g1.2
                have g0a := g0.1
                have g0b := g0.2
                have HS := Lib.hid hstep
                have hown4 := own_byte hownn (m + 1) (Gf.add (Gf.nxtE c z m (m + 1)) c[m])
                have q0 := (own_get hown4 (k := m) (by rw [List.length_set]; omega)).1
                rw [List.getElem_set_ne (by omega), Gf.nxt_get] at q0
                have q1 := (World.cell?_setCell_far wr ⟨G, m + 1, none⟩ ⟨bc, oc + m, none⟩ (.int .u8 (Gf.add (Gf.nxtE c z m (m + 1)) c[m]).toNat) (Ne.symm hGne)).trans d1
                have q2 := (World.cell?_setCell_far wr ⟨G, m + 1, none⟩ ⟨ba, oa + j, none⟩ (.int .u8 (Gf.add (Gf.nxtE c z m (m + 1)) c[m]).toNat) (Ne.symm hbaG)).trans d2
                have q3 := (own_get hown4 (k := m) (by rw [List.length_set]; omega)).2
                have b4 : Below wm.heap.size wm (wr.setCell ⟨G, m + 1, none⟩ (.int .u8 (Gf.add (Gf.nxtE c z m (m + 1)) c[m]).toNat)) := hbn.setCell (p := ⟨G, m + 1, none⟩) (by rw [HG.out]; exact Nat.le_refl _) _
                clear hstep g1 g0 hcc
                generalize c[m] = y1 at *
                generalize Gf.nxtE c z m (m + 1) = y2 at *
                generalize Gf.nxtE c z m m = y3 at *
                generalize Gf.nxt c z m = nx at *
                have m0 : (0 : Int) ≤ (m : Int) := by omega
                have m1 : (m : Int) < (c.length : Int) := by omega
                have m2 : (m : Int) + 1 < (L : Int) := by omega
                have m3 : (m : Int) < (L : Int) := by omega
                clear c1 c2
                have s2 : (0 : Int) ≤ (m : Int) + 1 := by omega
                have s1 : IntKind.i64.wrap ((m : Int) + 1) = (m : Int) + 1 := IntWalk.i64_in _ (by omega)
                have s3 : ((m : Int) + 1).toNat = m + 1 := by omega
                go_wp2_with fail
                go_region_with (fail)
                all_goals
                  clear s1 s2 s3 m2 g1a g1b g0a g0b d1 d2 hownn hbn
                  have hown5 := hown4.drew
                  have b5 := b4.drew
                  have q0' := q0
                  rw [← World.cell?_drew] at q0
                  rw [← World.cell?_drew] at q1
                  rw [← World.cell?_drew] at q2
                  have q3' : (wr.setCell ⟨G, m + 1, none⟩ (.int .u8 (Gf.add y2 y1).toNat)).drew.frozen? ⟨G, m, none⟩ = false := q3
                  clear hown4 b4 q0' q3
                  generalize (wr.setCell ⟨G, m + 1, none⟩ (.int .u8 (Gf.add y2 y1).toNat)).drew = w5 at *
                  go_wp2_with fail
                  go_region_with (go_at_call 25; (with_reducible refine (RefMul_calls _ _ _).mono ?_); rintro e w' ⟨rfl, rfl⟩)
                  all_goals
                    have hown6 := own_byte hown5 m (Gf.add y3 (Gf.mul y1 z))
                    have b6 := b5.setCell (p := ⟨G, m, none⟩) (by rw [HG.out]; exact Nat.le_refl _) (.int .u8 (Gf.add y3 (Gf.mul y1 z)).toNat)
                    rw [HS.out] at hown6
                    go_wp2_with fail
                    go_roundw
                  all_goals first
                    | exact ⟨m + 1, by omega, by go_num, hown6.drew, b6.drew⟩
                    | (simp [intOf] <;> omega)
              · obtain rfl : m = c.length := by omega
                rw [Gf.nxt_all] at hownn
                have hbo : Below wo.heap.size wo wr := hbc.trans (hbn.mono hosz)
                have c1' : wr.cell? ⟨ba, oa + i, none⟩ = some (.int .u8 y.toNat) := (hbn.cell (p := ⟨ba, oa + i, none⟩) (by have h1 := hbA.size; show ba < _; omega)).trans c1
                have c2' : wr.cell? ⟨ba, oa + j, none⟩ = some (.int .u8 z.toNat) := (hbn.cell (p := ⟨ba, oa + j, none⟩) (by have h1 := hbA.size; show ba < _; omega)).trans c2
                clear c1 c2
                go_wp2_with fail
                go_quiet ((go_at_call 25; exact Calls.quiet_of ((RefMul_calls x (Gf.add y z) _).mono fun e w' h => ⟨h.1, 0, by rw [← h.2]; rfl⟩)))
                go_wp2_with fail
                go_roundw
                case rel =>
                  refine ⟨j + 1, by omega, by go_num, by rw [E2.out], ?_, below_drewN hbo _⟩
                  rw [E1.out, Gf.lin_length, ← HL.out]
                  exact own_drewN hownn _
                case measure => simp [intOf] <;> omega
        · obtain rfl : j = at_.length := by omega
          have hcl : (Gf.cj at_ i at_.length).length = at_.length := by rw [Gf.cj_length, if_pos hlt]; omega
          have hbA : Below w.heap.size w wr := hbl.trans (hbc.mono hbl.size)
          obtain ⟨bv, ov, rfl, hbv, hcv⟩ := hb.bytes (k := i) (by rw [Hl.out]; exact hlt)
          have cv : wr.cell? ⟨bv, ov + i, none⟩ = some (.int .u8 (v.getD i 0).toNat) := by
            rw [List.getD_eq_getElem?_getD, List.getElem?_eq_getElem (by rw [Hl.out]; exact hlt)]
            exact (hbA.cell (p := ⟨bv, ov + i, none⟩) hbv).trans (hcv i (by rw [Hl.out]; exact hlt))
          have hE : ∀ k, Gf.cofE at_ v (i + 1) k = Gf.add (Gf.cofE at_ v i k) (Gf.mul ((Gf.cj at_ i at_.length).getD k 0) (Gf.mul (v.getD i 0) (Gf.inv (Gf.wj at_ i at_.length)))) := fun _ => rfl
          have HE := Lib.hid hE
          have hownA : wr.ownsRow W 5 1 (.slice (some ⟨W, 0, none⟩) at_.length at_.length) at_.length ((cofM at_ v i 0).map vB) := by rw [cofM_zero]; exact own_below hown hbc
          rw [hcl] at hownc
          have Hcl := Lib.hid hcl
          clear hE hcl hcv
          generalize Gf.cj at_ i at_.length = c at *
          generalize Gf.wj at_ i at_.length = x at *
          generalize v.getD i 0 = y at *
          go_wp2_with fail
          go_quiet ((first | (go_at_call 26; exact Calls.quiet_of ((RefInv_calls x _).mono fun e w' h => ⟨h.1, 0, by rw [← h.2]; rfl⟩)) | (go_at_call 25; exact Calls.quiet_of ((RefMul_calls y (Gf.inv x) _).mono fun e w' h => ⟨h.1, 0, by rw [← h.2]; rfl⟩))))
          have r7 : Rd wr ac 5 (c.map vB) := Rd.of_own hownc
          have hneW : ∀ q, ac = some q → q.block ≠ W := fun q hq => by subst hq; exact own_ne hownc (Nat.lt_succ_self W) _ rfl
          have hbN := below_drewN hbA nq
          have hownN := own_drewN hownA nq
          have r7N : Rd (wr.drewN nq) ac 5 (c.map vB) := r7
          clear hownA hownc r7 cv hbc
          generalize Gf.mul y (Gf.inv x) = sc at *
          generalize wr.drewN nq = w7 at *
          go_wp2_with fail
          go_loopw [13] (fun q wr => ∃ k : Nat, k ≤ at_.length ∧ q = .int .i64 k ∧ wr.ownsRow W 5 1 (.slice (some ⟨W, 0, none⟩) at_.length at_.length) at_.length ((cofM at_ v i k).map vB) ∧ Rd wr ac 5 (c.map vB) ∧ Below w.heap.size w wr) (fun q _ => at_.length - (intOf q).toNat)
          case atStart => exact ⟨0, Nat.zero_le _, rfl, hownN, r7N, hbN⟩
          case round =>
            obtain ⟨k, hk, rfl, hownk, rk, hbk⟩ := hrel
            by_cases hkl : k < at_.length
            · obtain ⟨bc, oc, hac, _, hcc⟩ := rk.bytes (k := k) (by rw [Hcl.out]; exact hkl)
              subst hac
              have d1 := hcc k (by rw [Hcl.out]; exact hkl)
              have g := own_get hownk (k := k) (by rw [cofM_length]; exact hkl)
              rw [cofM_get] at g
              have g1 := g.1
              have g2 := g.2
              have hset := cofM_set at_ v i k hkl
              rw [HE.out, List.getD_eq_getElem?_getD, List.getElem?_eq_getElem (show k < c.length by rw [Hcl.out]; exact hkl)] at hset
              rw [Option.getD_some] at hset
              have HSet := Lib.hid hset
              have k0 : (0 : Int) ≤ (k : Int) := by omega
              have k1 : (k : Int) < (at_.length : Int) := by omega
              have k2 : (k : Int) < (c.length : Int) := by rw [Hcl.out]; omega
              have hne := hneW _ rfl
              clear g hset hcc
              generalize c[k]'(by rw [Hcl.out]; exact hkl) = y1 at *
              generalize Gf.cofE at_ v i k = y3 at *
              go_wp2_with fail
              go_region_with (go_at_call 25; (with_reducible refine (RefMul_calls _ _ _).mono ?_); rintro e w' ⟨rfl, rfl⟩)
              all_goals
                have hown6 := own_byte hownk k (Gf.add y3 (Gf.mul y1 sc))
                have b6 := hbk.setCell (p := ⟨W, k, none⟩) (by rw [HW.out]; exact Nat.le_refl _) (.int .u8 (Gf.add y3 (Gf.mul y1 sc)).toNat)
                have r6 := rk.setCell ⟨W, k, none⟩ (.int .u8 (Gf.add y3 (Gf.mul y1 sc)).toNat) (fun q hq => by cases hq; exact hne)
                rw [HSet.out] at hown6
                go_wp2_with fail
                go_roundw
              all_goals first
                | exact ⟨k + 1, by omega, by go_num, hown6.drew, r6, b6.drew⟩
                | (simp [intOf] <;> omega)
            · obtain rfl : k = at_.length := by omega
              rw [cofM_all] at hownk
              have hkc : ¬ (at_.length < c.length) := by rw [Hcl.out]; omega
              go_wp2_with fail
              go_roundw
              case rel => exact ⟨i + 1, by omega, by go_num, hownk, hbk⟩
              case measure => simp [intOf] <;> omega
    · obtain rfl : i = at_.length := by omega
      go_wp2_with fail
      go_ret
      have hcl := Gf.cofs_length at_ v at_.length
      exact ⟨_, at_.length, by rw [hcl]; rfl, by rw [hcl, ← hW]; exact hown, hbl⟩
end Go.Proofs.Ytalbmcidlalicaa
