/- Walk: trie.Path tells all that stands beside a key's way up. -/
import Derived.Test.YtpeomfehdccmmaaDoorTriePath
import Derived.Laws.MakeOwn
import Derived.OwnWalk
namespace Go.Proofs.YtpeomfehdccmmaaDoor
open Go.RowKit
set_option linter.unusedVariables false
set_option linter.unusedSimpArgs false
open Go.Shelf Go.Lib Go.Sort
theorem info_digz : (Tryd.prog.info? 23).map (fun i => (i.zero, i.size, i.bytes)) = some (some (.agg (dV nz)), 32, 32) := by rw [← zdig]; exact info_dig
theorem made_dig : (madeCells (Value.agg (dV nz)).cells (32 * 32)).toList = List.replicate 1024 (.int .u8 0) := by
  refine List.eq_replicate_iff.2 ⟨by rw [Array.length_toList, size_madeCells], fun v hv => ?_⟩
  unfold madeCells at hv
  rw [Array.toList_map] at hv
  obtain ⟨i, _, rfl⟩ := List.mem_map.1 hv
  have hs : (Value.agg (dV nz)).cells.size = 32 := dV_size rfl
  rw [hs]
  have hi : i % 32 < (dV nz).size := by rw [dV_size rfl]; exact Nat.mod_lt _ (by omega)
  show (dV nz)[i % 32]! = _
  rw [getElem!_pos (dV nz) (i % 32) hi]
  have e : dV nz = (List.replicate 32 (Value.int .u8 0)).toArray := by unfold dV nz; rw [List.map_replicate]; rfl
  simp only [e, List.getElem_toArray, List.getElem_replicate]
set_option maxRecDepth 20000 in
set_option maxHeartbeats 8000000 in
theorem Path_ok (es : List En) (hw : ∀ e ∈ es, EnW e) (a : Option Addr) (cap ea : Nat) (hc1 : es.length ≤ cap) (hc2 : cap ≤ 9223372036854775807) (k : Nat) (hk : k < 4294967296) (w : World) (hr : Rd w a ea (cellsE es)) (hf : mapF es = 0) (hro : RoundsAt w) :
    Calls Tryd.prog 23 #[.slice a es.length cap, .int .i64 (k : Int)] w fun e w' => ∃ a' c', e = .returned (.tuple #[.slice a' 32 c', .nilIface]) ∧ w'.ownsRow w.heap.size 23 32 (.slice a' 32 c') 32 ((pathD (leafF es) k).flatten.map vB) ∧ Below w.heap.size w w' := by
  obtain ⟨f, hff⟩ : ∃ f, f = leafF es := ⟨_, rfl⟩
  have hf32 : ∀ q, (f q).length = 32 := fun q => by rw [hff]; exact leafF_length es q
  have SC := Sorted_calls es hw a cap ea hc1 hc2 w hr
  have SC2 : Calls Tryd.prog 50 #[.slice a es.length cap] w fun e w' => (∃ (d : List EnS) (a : Option Addr) (cap e' : Nat), e = .returned (.tuple #[.slice a d.length cap, .nilIface]) ∧ d.length ≤ cap ∧ cap ≤ 9223372036854775807 ∧ Up (vals d) ∧ leafF (vals d) = f ∧ Rd w' a e' (cellsE (vals d))) ∧ Below w.heap.size w w' := SC.mono fun e w' h => ⟨by
    obtain ⟨d, a2, c2, e2, h1, h2, h3, h4, h5, h6, h7⟩ := h.2.1 hf
    exact ⟨d, a2, c2, e2, by rw [h1, h2], by omega, h4, h5, by rw [hff]; exact mem_leafF es (apart_ok es hf).2.2 d h5 h6, h7⟩, h.2.2⟩
  obtain ⟨i0, hi0, hz0, hs0, hb0⟩ := info_parts info_digz
  rw [← hff]
  have HSC := Lib.hid SC2
  have RO := Lib.hid hro
  clear SC SC2 hr hw hf hc1 hro hff
  go_enter Tryd.func23, Tryd.ntmps23
  go_wp2_with fail
  refine HSC.out.mono ?_
  rintro e w2 ⟨⟨d, a2, c2, e2, rfl, hd1, hd2, hd3, hd4, hd5⟩, hb2⟩
  obtain ⟨P, hP⟩ : ∃ P, P = w2.heap.size := ⟨_, rfl⟩
  have KK := Key_calls (k : Int) w2
  rw [decide_eq_true (show KeyOk (k : Int) from ⟨by omega, by omega⟩)] at KK
  have HKK := Lib.hid KK
  have HP := Lib.hid hP
  have B2 := Lib.hid hb2
  have RO2 := Lib.hid (RO.out.at_ hb2)
  have D1 := Lib.hid hd1
  have D3 := Lib.hid hd3
  have D4 := Lib.hid hd4
  have D5 := Lib.hid hd5
  clear KK hb2 HSC hd1 hd3 hd4 hd5 RO hP
  go_upto_region 7 with (first
    | (go_at_call 47; refine HKK.out.mono ?_; rintro e w' ⟨rfl, rfl⟩)
    | (at_make; refine wpList_make_full _ rfl _ _ 24 rfl w2.heap.size 23 i0 (.agg (dV nz)) 32 Tryd.underlying24 hi0 hz0 hs0 _ _ _ _ 32 rfl rfl rfl rfl (by rw [hb0]; omega) (by simp only [maxLen]; omega) (Nat.le_refl _) ?_; intro w3 hown3 hgrow3))
  rw [made_dig, ← flat_nz, ← sibs_all f k, ← HP.out] at hown3
  have b3 : Below P w2 w3 := by rw [HP.out]; exact (Below.refl _ w2).grown hgrow3 (Nat.le_refl _) (fun k hk => by cases hk)
  rw [← HP.out]
  have HO3 := Lib.hid hown3
  have B3 := Lib.hid b3
  clear hown3 hgrow3 b3 HKK
  go_wp2_with fail
  go_loopw [6, 9] (fun ov i wr => ∃ (m : Nat) (zs : List EnS) (az : Option Addr) (cz ez : Nat), m ≤ 32 ∧ i = .int .i64 ((m : Int) - 1) ∧ ov = .slice az zs.length cz ∧ zs.length ≤ cz ∧ cz ≤ 9223372036854775807 ∧ Up (vals zs) ∧ InP m (k / 2 ^ m) (vals zs) ∧ (∀ q, k / 2 ^ m * 2 ^ m ≤ q → q < (k / 2 ^ m + 1) * 2 ^ m → leafF (vals zs) q = f q) ∧ Rd w2 az ez (cellsE (vals zs)) ∧ wr.ownsRow P 23 32 (.slice (some ⟨P, 0, none⟩) 32 32) 32 ((sibs f k m).flatten.map vB) ∧ Below P w2 wr) (fun _ i _ => (intOf i + 1).toNat)
  case atStart =>
    have hk0 : k / 2 ^ 32 = 0 := Nat.div_eq_of_lt hk
    exact ⟨32, d, a2, c2, e2, Nat.le_refl _, rfl, rfl, D1.out, hd2, D3.out, by rw [hk0]; exact inP_all d, fun q _ _ => by rw [D4.out], D5.out, HO3.out, B3.out⟩
  case round =>
    clear HO3 B3 D1 D3 D4 D5 hd2
    obtain ⟨m, zs, az, cz, ez, hm, rfl, rfl, hz1, hz2, hup, hin, hlf, hrz, hown, hbl⟩ := hrel
    obtain ⟨wB, rfl⟩ : ∃ z, z = wr := ⟨_, rfl⟩
    by_cases hm0 : 1 ≤ m
    · obtain ⟨q, rfl⟩ : ∃ q, m = q + 1 := ⟨m - 1, by omega⟩
      have hqi : ((q + 1 : Nat) : Int) - 1 = (q : Int) := by omega
      rw [hqi]
      have hq : q < 32 := by omega
      have q0 : (0 : Int) ≤ (q : Int) := by omega
      have q1 : (q : Int) < 32 := by omega
      have e4 : IntKind.i64.wrap ((q : Int) - 1) = (q : Int) - 1 := IntWalk.i64_in _ (by omega)
      obtain ⟨x, hx⟩ : ∃ x, x = k / 2 ^ q := ⟨_, rfl⟩
      have e5 : (k : Int) / 2 ^ q = (x : Int) := by rw [hx]; exact shr_bit k q
      have hxl : x < 9223372036854775808 := by rw [hx]; exact Nat.lt_of_le_of_lt (Nat.div_le_self _ _) (by omega)
      have hbl2 : Below w2.heap.size w2 wB := by rw [← HP.out]; exact hbl
      have HC := Halves_calls q hq zs az cz ez hz1 hz2 wB (hrz.below hbl2)
      obtain ⟨L1, hL1⟩ : ∃ L, L = zs.takeWhile fun x => !(bitP q x) := ⟨_, rfl⟩
      obtain ⟨L2, hL2⟩ : ∃ L, L = zs.dropWhile fun x => !(bitP q x) := ⟨_, rfl⟩
      unfold HalvesRet at HC
      rw [← hL1, ← hL2] at HC
      have HHC := Lib.hid HC
      have HX := Lib.hid hx
      have HXL := Lib.hid hxl
      have HL1 := Lib.hid hL1
      have HL2 := Lib.hid hL2
      have HUP := Lib.hid hup
      have HIN := Lib.hid hin
      have HLF := Lib.hid hlf
      have HRZ := Lib.hid hrz
      have HO := Lib.hid hown
      have HBL := Lib.hid hbl2
      clear HC hx hxl hL1 hL2 hup hin hlf hrz hown hbl hbl2 hqi hm hm0
      go_wp2_with fail
      refine HHC.out.mono ?_
      rintro e w3 ⟨a1, c1, a3, c3, rfl, hn1, hc1, hn2, hc2, f1, f2, hb3⟩
      have HOWN := Lib.hid (own_below HO.out hb3)
      have B23 := Lib.hid (HBL.out.trans (hb3.mono HBL.out.size))
      clear HHC HO HBL hb3
      by_cases hb1 : x % 2 = 1
      · have hb6 : (bits BinOp.and IntKind.i64 (x : Int) 1 == 1) = true := by rw [and_one x HXL.out, hb1]; rfl
        have HS := half_step f k q zs HUP.out HIN.out HLF.out L1 L2 HL1.out HL2.out L2 L1 (by rw [← HX.out, if_pos hb1]; exact ⟨rfl, rfl⟩)
        rw [← HX.out] at HS
        obtain ⟨s1, s2, s3, s4⟩ := HS
        have S1 := Lib.hid s1
        have S2 := Lib.hid s2
        have S3 := Lib.hid s3
        have rn := f2 _ HRZ.out
        have ro := f1 _ HRZ.out
        have RC := Root_calls q (by omega) L1 a1 c1 ez hn1 hc1 w3 (ro.below B23.out) (RO2.out.at_ B23.out)
        rw [s4] at RC
        have RN := Lib.hid rn
        have HRC := Lib.hid RC
        have HN := Lib.hid (And.intro hn2 hc2)
        clear s1 s2 s3 s4 rn ro RC hb1 hn1 hc1 hn2 hc2 f1 f2
        go_wp2_with fail
        refine HRC.out.mono ?_
        rintro e w4 ⟨rfl, hb4⟩
        have hown4 := own_below HOWN.out hb4
        have B4 := Lib.hid (B23.out.trans (hb4.mono B23.out.size))
        clear hb4 HRC HOWN
        obtain ⟨R, hR⟩ : ∃ R, R = sib f k q := ⟨_, rfl⟩
        have rl : R.length = 32 := by rw [hR]; exact sib_length f hf32 k q
        rw [← hR]
        have hset : (sibs f k (q + 1)).set q R = sibs f k q := by rw [hR]; exact sibs_set f k q hq
        have thr := own_there hown4 (sibs_dig f hf32 k (q + 1)) q (by rw [sibs_length]; exact hq)
        have hown5 := own_digset hown4 (sibs_dig f hf32 k (q + 1)) q (by rw [sibs_length]; exact hq) R rl
        rw [hset] at hown5
        have HO5 := Lib.hid hown5
        have B5 := Lib.hid (below_setCells (R.map vB) (q * 32) (show Below P w2 w4 by rw [HP.out]; exact B4.out) (Nat.le_refl P))
        have RL := Lib.hid rl
        clear hset hown4 hown5 rl hR
        go_wp2_with (refine st_dig rfl (.tmp 48) (.tmp 47) rfl P (q * 32) R RL.out (by rfl) (by rfl) thr ?_; clear thr; generalize w4.setCells P (q * 32) (R.map vB) = w5 at *)
        go_roundw
        case rel => exact ⟨q, L2, a3, c3, ez, by omega, rfl, rfl, HN.out.1, HN.out.2, S1.out, by rw [← HX.out]; exact S2.out, by rw [← HX.out]; exact S3.out, RN.out, HO5.out, B5.out⟩
        case measure => simp only [intOf]; omega
      · have hb6 : (bits BinOp.and IntKind.i64 (x : Int) 1 == 1) = false := by rw [and_one x HXL.out, show x % 2 = 0 by omega]; rfl
        have HS := half_step f k q zs HUP.out HIN.out HLF.out L1 L2 HL1.out HL2.out L1 L2 (by rw [← HX.out, if_neg hb1]; exact ⟨rfl, rfl⟩)
        rw [← HX.out] at HS
        obtain ⟨s1, s2, s3, s4⟩ := HS
        have S1 := Lib.hid s1
        have S2 := Lib.hid s2
        have S3 := Lib.hid s3
        have rn := f1 _ HRZ.out
        have ro := f2 _ HRZ.out
        have RC := Root_calls q (by omega) L2 a3 c3 ez hn2 hc2 w3 (ro.below B23.out) (RO2.out.at_ B23.out)
        rw [s4] at RC
        have RN := Lib.hid rn
        have HRC := Lib.hid RC
        have HN := Lib.hid (And.intro hn1 hc1)
        clear s1 s2 s3 s4 rn ro RC hb1 hn1 hc1 hn2 hc2 f1 f2
        go_wp2_with fail
        refine HRC.out.mono ?_
        rintro e w4 ⟨rfl, hb4⟩
        have hown4 := own_below HOWN.out hb4
        have B4 := Lib.hid (B23.out.trans (hb4.mono B23.out.size))
        clear hb4 HRC HOWN
        obtain ⟨R, hR⟩ : ∃ R, R = sib f k q := ⟨_, rfl⟩
        have rl : R.length = 32 := by rw [hR]; exact sib_length f hf32 k q
        rw [← hR]
        have hset : (sibs f k (q + 1)).set q R = sibs f k q := by rw [hR]; exact sibs_set f k q hq
        have thr := own_there hown4 (sibs_dig f hf32 k (q + 1)) q (by rw [sibs_length]; exact hq)
        have hown5 := own_digset hown4 (sibs_dig f hf32 k (q + 1)) q (by rw [sibs_length]; exact hq) R rl
        rw [hset] at hown5
        have HO5 := Lib.hid hown5
        have B5 := Lib.hid (below_setCells (R.map vB) (q * 32) (show Below P w2 w4 by rw [HP.out]; exact B4.out) (Nat.le_refl P))
        have RL := Lib.hid rl
        clear hset hown4 hown5 rl hR
        go_wp2_with (refine st_dig rfl (.tmp 48) (.tmp 47) rfl P (q * 32) R RL.out (by rfl) (by rfl) thr ?_; clear thr; generalize w4.setCells P (q * 32) (R.map vB) = w5 at *)
        go_roundw
        case rel => exact ⟨q, L1, a1, c1, ez, by omega, rfl, rfl, HN.out.1, HN.out.2, S1.out, by rw [← HX.out]; exact S2.out, by rw [← HX.out]; exact S3.out, RN.out, HO5.out, B5.out⟩
        case measure => simp only [intOf]; omega
    · obtain rfl : m = 0 := by omega
      have hown0 := hown
      rw [sibs_zero] at hown0
      have hneg : ((0 : Nat) : Int) - 1 = -1 := rfl
      rw [hneg]
      have HO := Lib.hid (own_base hown0 (show w.heap.size ≤ P by rw [HP.out]; exact B2.out.size))
      have BF := Lib.hid (B2.out.trans (hbl.mono (by rw [HP.out]; exact B2.out.size)))
      clear hown hown0 hbl hrz hlf hin hup
      go_wp2_with fail
      go_ret2
      exact ⟨_, 32, rfl, HO.out, BF.out⟩
end Go.Proofs.YtpeomfehdccmmaaDoor
