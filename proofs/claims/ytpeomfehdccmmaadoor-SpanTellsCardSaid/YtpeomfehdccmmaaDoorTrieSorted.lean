/- Walk: trie.sorted: entries by their keys, or what is wrong with them. -/
import Derived.Test.YtpeomfehdccmmaaDoorTrieSort
import Derived.Shelf.SlSortCmp.NoneTotal
import Derived.Maps.OwnSet
import Derived.WalkArith
namespace Go.Proofs.YtpeomfehdccmmaaDoor
open Go.RowKit
set_option linter.unusedVariables false
set_option linter.unusedSimpArgs false
open Go.Shelf Go.Lib Go.Sort Go.Maps
/-- what is wrong, behind keys that were met -/
def scanG : List Int → List En → Int
  | _, [] => 0
  | pre, e :: r => if KeyOk e.key then (if e.key ∈ pre then 7 else scanG (pre ++ [e.key]) r) else 2
def mapF (es : List En) : Int := if 64 < es.length then 4 else scanG [] es
theorem scanG_cons (pre : List Int) (e : En) (r : List En) : scanG pre (e :: r) = if KeyOk e.key then (if e.key ∈ pre then 7 else scanG (pre ++ [e.key]) r) else 2 := rfl
theorem scan_ok : ∀ (es : List En) (pre : List Int), scanG pre es = 0 → (∀ e ∈ es, KeyOk e.key) ∧ Apart es ∧ ∀ e ∈ es, e.key ∉ pre
  | [], _, _ => ⟨fun _ h => (by cases h), List.Pairwise.nil, fun _ h => (by cases h)⟩
  | e :: r, pre, h => by
    rw [scanG_cons] at h
    split at h
    · rename_i hk
      split at h
      · cases h
      · rename_i hn
        obtain ⟨h1, h2, h3⟩ := scan_ok r _ h
        refine ⟨fun x hx => ?_, List.pairwise_cons.2 ⟨fun x hx he => ?_, h2⟩, fun x hx => ?_⟩
        · rcases List.mem_cons.1 hx with rfl | hx
          · exact hk
          · exact h1 x hx
        · exact h3 x hx (by rw [he]; simp)
        · rcases List.mem_cons.1 hx with rfl | hx
          · exact hn
          · exact fun hm => h3 x hx (List.mem_append_left _ hm)
    · cases h
def liftE (es : List En) (h : ∀ e ∈ es, EnOk e) : List EnS := es.attach.map fun x => ⟨x.1, h x.1 x.2⟩
theorem vals_lift (es : List En) (h : ∀ e ∈ es, EnOk e) : vals (liftE es h) = es := by
  unfold vals liftE
  rw [List.map_map]
  exact List.attach_map_subtype_val es
theorem lift_length (es : List En) (h : ∀ e ∈ es, EnOk e) : (liftE es h).length = es.length := by unfold liftE; simp
/-- a sorted row of entries whose keys are apart -/
theorem sorted_up (es : List EnS) (d' : Array EnS) (ha : Apart (vals es)) (hp : PermIn 0 es.length es.toArray d') (hs : SortedIn (ltOf cfE) 0 es.length d') : d'.toList.length = es.length ∧ Up (vals d'.toList) ∧ ∀ x, x ∈ vals d'.toList ↔ x ∈ vals es := by
  obtain ⟨h1, _, h3⟩ := hp
  have hsz : d'.size = es.length := by simpa using h1
  rw [show d'.extract 0 es.length = d' by rw [← hsz]; simp, show es.toArray.extract 0 es.length = es.toArray by simp] at h3
  have hperm : (vals d'.toList).Perm (vals es) := by unfold vals; exact List.Perm.map _ (by simpa using h3)
  have hap : Apart (vals d'.toList) := (List.Perm.pairwise_iff (fun {a b} h => fun e => h e.symm) hperm).2 ha
  refine ⟨by simpa using hsz, ?_, fun x => hperm.mem_iff⟩
  unfold Up
  rw [List.pairwise_iff_getElem]
  intro i j hi hj hij
  have hap2 := List.pairwise_iff_getElem.1 hap i j hi hj hij
  unfold vals at hi hj hap2 ⊢
  rw [List.length_map, Array.length_toList] at hi hj
  simp only [List.getElem_map, Array.getElem_toList] at hap2 ⊢
  have := hs i j (Nat.zero_le _) hij (by omega)
  rw [ltE, decide_eq_false_iff_not, getElem!_pos d' j hj, getElem!_pos d' i hi] at this
  omega
theorem mapLaw : Keyed Tryd.prog 3 := int_keyed Tryd.underlying3
theorem mapZero (w : World) : (zeroValue 3).run Tryd.prog w = .ok (.int .i64 0) w := by kernel_rfl
theorem has_step {D : DataW Unit} {pre post : List Int} {x : Int} {d : DataW Unit} (hD : IsMap D) (hk : WideAt.IsKeyLit (.int .i64 x)) (h : ∀ y : Int, Maps.has D (.int .i64 y) = decide (y ∈ pre)) (hp : post = pre ++ [x]) (y : Int) : Maps.has (D.put (.int .i64 x) d) (.int .i64 y) = decide (y ∈ post) := by
  by_cases e : y = x
  · subst e
    rw [has_put_same hD hk, decide_eq_true (by rw [hp]; simp)]
  · rw [has_put_other (fun h => e (by cases h; rfl)), h, hp, decide_eq_decide]
    simp [e]
theorem hkey_lit {x : Int} : WideAt.IsKeyLit (.int .i64 x) := by trivial
def SortedRet (w : World) (es : List En) (e : Ending) (w' : World) : Prop :=
  (mapF es ≠ 0 → e = .returned (.tuple #[.slice none 0 0, .iface 25 (.int .i64 (mapF es))])) ∧
  (mapF es = 0 → ∃ (d : List EnS) (a : Option Addr) (cap e' : Nat), e = .returned (.tuple #[.slice a es.length cap, .nilIface]) ∧ d.length = es.length ∧ es.length ≤ cap ∧ cap ≤ 9223372036854775807 ∧ Up (vals d) ∧ (∀ x, x ∈ vals d ↔ x ∈ es) ∧ Rd w' a e' (cellsE (vals d))) ∧ Below w.heap.size w w'
theorem bad_ret {w : World} {es : List En} {w' : World} (n : Int) (h : mapF es = n) (hn : n ≠ 0) (hb : Below w.heap.size w w') : SortedRet w es (.returned (.tuple #[.slice none 0 0, .iface 25 (.int .i64 n)])) w' :=
  ⟨fun _ => by rw [h], fun h0 => absurd (h.symm.trans h0) hn, hb⟩
set_option maxRecDepth 100000 in
set_option maxHeartbeats 8000000 in
theorem Sorted_calls (es : List En) (hw : ∀ e ∈ es, EnW e) (a : Option Addr) (cap ea : Nat) (hc1 : es.length ≤ cap) (hc2 : cap ≤ 9223372036854775807) (w : World) (hr : Rd w a ea (cellsE es)) :
    Calls Tryd.prog 50 #[.slice a es.length cap] w (SortedRet w es) := by
  have hlen : ∀ e ∈ es, e.val.length = 32 := fun e he => (hw e he).1
  by_cases h64 : 64 < es.length
  · have hf : mapF es = 4 := by unfold mapF; rw [if_pos h64]
    have z1 : (64 : Int) < (es.length : Int) := by omega
    have HF := Lib.hid hf
    clear hf hr hlen hw
    go_enter Tryd.func50, Tryd.ntmps50
    go_wp2_with fail
    go_ret2
    exact bad_ret 4 HF.out (by decide) (Below.refl _ _)
  · have z1 : ¬ (64 : Int) < (es.length : Int) := by omega
    obtain ⟨F, hF⟩ : ∃ F, F = scanG [] es := ⟨_, rfl⟩
    have hf : mapF es = F := by unfold mapF; rw [if_neg h64, hF]
    have HF := Lib.hid hf
    have HS := Lib.hid hF
    have HL := Lib.hid hlen
    have HWW := Lib.hid hw
    have HR := Lib.hid hr
    obtain ⟨M, hM⟩ : ∃ M, M = w.heap.size := ⟨_, rfl⟩
    have HM := Lib.hid hM
    have hmm := @run_makeMap Tryd.prog
    clear hf hF hlen hw hr hM
    go_enter Tryd.func50, Tryd.ntmps50
    go_wp2_with fail
    rw [← HM.out]
    go_loopw [17] (fun i wr => ∃ (k : Nat) (D : DataW Unit), k ≤ es.length ∧ i = .int .i64 k ∧ wr.ownsMap Tryd.prog 3 (plainElem (H := Unit) Tryd.prog 3) M k D ∧ (∀ x : Int, Maps.has D (.int .i64 x) = decide (x ∈ (es.take k).map (·.key))) ∧ scanG ((es.take k).map (·.key)) (es.drop k) = F ∧ Below M w wr) (fun i _ => es.length - (intOf i).toNat)
    case atStart => exact ⟨0, .map [], Nat.zero_le _, rfl, by rw [HM.out]; exact World.ownsMap_made _ _ _ _, fun x => by simp; rfl, by rw [HS.out]; rfl, by rw [HM.out]; exact (Below.refl _ _).alloc (Nat.le_refl _) _⟩
    case round =>
      obtain ⟨k, D, hk, rfl, hown, hhas, hsc, hbl⟩ := hrel
      have hMr := hown.lt
      by_cases hlt : k < es.length
      · obtain ⟨b, o, rfl, hb, hrg⟩ := HR.out.ent HL.out hlt
        have hrg2 : wr.rangeAt b (o + k * 33) (eL es[k]) := range_low hrg hbl (by rw [HM.out]; exact hb)
        have he32 := HL.out _ (List.getElem_mem hlt)
        have hbw := (HWW.out _ (List.getElem_mem hlt)).2
        have hdrop : es.drop k = es[k] :: es.drop (k + 1) := List.drop_eq_getElem_cons hlt
        have htake : (es.take (k + 1)).map (·.key) = (es.take k).map (·.key) ++ [es[k].key] := by
          rw [List.take_succ_eq_append_getElem hlt, List.map_append]; rfl
        rw [hdrop, scanG_cons] at hsc
        have k0 : (0 : Int) ≤ (k : Int) := by omega
        have k1 : (k : Int) < (es.length : Int) := by omega
        obtain ⟨E, hE⟩ : ∃ E, E = es[k] := ⟨_, rfl⟩
        rw [← hE] at hrg2 he32 hbw htake hsc
        obtain ⟨w1, hw1⟩ : ∃ z, z = wr.alloc (.cells (eV E.key E.val) 35) := ⟨_, rfl⟩
        have c0 : w1.cell? ⟨wr.heap.size, 0, none⟩ = some (.int .i64 E.key) := by rw [hw1]; exact eV_key (heap_alloc_new wr _)
        have hown1 : w1.ownsMap Tryd.prog 3 (plainElem (H := Unit) Tryd.prog 3) M k D := by rw [hw1]; exact hown.alloc _
        have hb1 : Below M w w1 := by rw [hw1]; exact hbl.alloc (by omega) _
        have kk := Key_calls E.key w1
        have hkey : keyOf Tryd.prog 3 (.int .i64 E.key) = some (.int .i64 E.key) := keyOf_int_mk Tryd.underlying3 (WalkArith.wf_i64 (by omega))
        have HRG := Lib.hid hrg2
        have H32 := Lib.hid he32
        have HTK := Lib.hid htake
        have HSC := Lib.hid hsc
        have HW1 := Lib.hid hw1
        have HO1 := Lib.hid hown1
        have HB1 := Lib.hid hb1
        have HHAS := Lib.hid hhas
        have HKEY := Lib.hid hkey
        clear hrg hrg2 he32 hdrop htake hsc hE hw1 hown1 hb1 hown hhas hbl hkey
        by_cases hko : KeyOk E.key
        · rw [decide_eq_true hko] at kk
          have KK := Lib.hid kk
          by_cases hin : E.key ∈ (es.take k).map (·.key)
          · have hh : Maps.has D (.int .i64 E.key) = true := by rw [HHAS.out]; exact decide_eq_true hin
            have h7 : F = 7 := by have := HSC.out; rw [if_pos hko, if_pos hin] at this; exact this.symm
            have HH := Lib.hid hh
            have H7 := Lib.hid h7
            clear hin hh h7 kk
            go_wp2_with (first
              | ((refine ld_entG rfl (.tmp 20) rfl b (o + k * 33) (by rfl) E H32.out HRG.out ?_); simp only [Act.put, List.setIfInBounds_toArray, List.set_cons_zero, List.set_cons_succ])
              | ((refine st_entNew rfl (.tmp 6) (.tmp 21) rfl E H32.out (by rfl) _ _ (by rfl) (by rfl) ?_); rw [← HW1.out])
              | (go_at_call 47; refine KK.out.mono ?_; rintro e w' ⟨rfl, rfl⟩)
              | (at_lookup; refine wpList_lookup_own_ok_int _ rfl _ _ 106 rfl 3 3 .i64 mapLaw Tryd.underlying106 Tryd.underlying3 (mapZero _) M k D rfl HO1.out _ _ rfl HKEY.out ?_; intro c hat hwc; rw [HH.out]))
            go_ret2
            exact bad_ret 7 (by rw [HF.out, H7.out]) (by decide) (by rw [← HM.out]; exact HB1.out)
          · have hh : Maps.has D (.int .i64 E.key) = false := by rw [HHAS.out]; exact decide_eq_false hin
            have h7 : scanG ((es.take (k + 1)).map (·.key)) (es.drop (k + 1)) = F := by have := HSC.out; rw [if_pos hko, if_neg hin] at this; rw [HTK.out]; exact this
            have HH := Lib.hid hh
            have H7 := Lib.hid h7
            clear hh h7 kk
            go_wp2_with (first
              | ((refine ld_entG rfl (.tmp 20) rfl b (o + k * 33) (by rfl) E H32.out HRG.out ?_); simp only [Act.put, List.setIfInBounds_toArray, List.set_cons_zero, List.set_cons_succ])
              | ((refine st_entNew rfl (.tmp 6) (.tmp 21) rfl E H32.out (by rfl) _ _ (by rfl) (by rfl) ?_); rw [← HW1.out])
              | (go_at_call 47; refine KK.out.mono ?_; rintro e w' ⟨rfl, rfl⟩)
              | (at_mapUpdate; refine wpList_mapUpdate_own _ rfl _ _ _ 106 rfl 3 3 mapLaw Tryd.underlying106 _ M k D rfl HO1.out (by unfold maxLen; omega) _ _ _ rfl rfl HKEY.out _ [] (plainElem_int Tryd.underlying3 (WalkArith.wf_i64 (by omega))) ?_; intro w2 hown2 hgrow2)
              | (at_lookup; refine wpList_lookup_own_ok_int _ rfl _ _ 106 rfl 3 3 .i64 mapLaw Tryd.underlying106 Tryd.underlying3 (mapZero _) M k D rfl HO1.out _ _ rfl HKEY.out ?_; intro c hat hwc; rw [HH.out]))
            go_roundw
            case rel => exact ⟨k + 1, _, hlt, by go_num, hown2, has_step HO1.out.isMap hkey_lit HHAS.out HTK.out, H7.out, HB1.out.grown hgrow2 (by have := HB1.out.size; rw [HM.out]; exact this) (fun j hj => by cases hj; exact Nat.le_refl _)⟩
            case measure => simp [intOf]; omega
        · rw [decide_eq_false hko] at kk
          have KK := Lib.hid kk
          have h7 : F = 2 := by have := HSC.out; rw [if_neg hko] at this; exact this.symm
          have H7 := Lib.hid h7
          clear h7 kk hko
          go_wp2_with (first
            | ((refine ld_entG rfl (.tmp 20) rfl b (o + k * 33) (by rfl) E H32.out HRG.out ?_); simp only [Act.put, List.setIfInBounds_toArray, List.set_cons_zero, List.set_cons_succ])
            | ((refine st_entNew rfl (.tmp 6) (.tmp 21) rfl E H32.out (by rfl) _ _ (by rfl) (by rfl) ?_); rw [← HW1.out])
            | (go_at_call 47; refine KK.out.mono ?_; rintro e w' ⟨rfl, rfl⟩))
          go_ret2
          exact bad_ret 2 (by rw [HF.out, H7.out]) (by decide) (by rw [← HM.out]; exact HB1.out)
      · obtain rfl : k = es.length := by omega
        rw [List.drop_eq_nil_of_le (Nat.le_refl _)] at hsc
        have hF0 : F = 0 := hsc.symm
        obtain ⟨hok, hap, _⟩ := scan_ok es [] (by rw [← HS.out]; exact hF0)
        have henok : ∀ e ∈ es, EnOk e := fun e he => ⟨HL.out e he, hok e he⟩
        have hm0 : mapF es = 0 := HF.out.trans hF0
        obtain ⟨wA, rfl⟩ : ∃ x, x = wr := ⟨_, rfl⟩
        have rA : Rd wA a ea (cellsE es) := HR.out.below (by rw [← HM.out]; exact hbl)
        have CC := CloneE_calls es HL.out a cap ea wA rA (by omega)
        have HCC := Lib.hid CC
        have HBL := Lib.hid hbl
        have HOK := Lib.hid henok
        have HAP := Lib.hid hap
        have HM0 := Lib.hid hm0
        clear CC hbl henok hap hm0 hok hsc hF0 hhas hown rA
        go_wp2_with fail
        refine HCC.out.mono ?_
        rintro e w2 ⟨av, cp, rfl, hown2, hb2⟩
        have hb2M : Below M w w2 := HBL.out.trans (hb2.mono (by omega))
        by_cases hn0 : es.length = 0
        · have SN : Calls Tryd.prog 74 #[.slice av es.length cp, .func (.func 75) #[] #[]] w2 fun e w' => e = .returned (.tuple #[]) ∧ w' = w2 := by
            rw [hn0]; exact AnyF.slices_SortFunc_none Lay.sortE av cp _ w2
          have HSN := Lib.hid SN
          have HB2 := Lib.hid hb2M
          have hcp : cp ≤ 9223372036854775807 := by
            rcases hown2.2 with ⟨h1, _⟩ | ⟨g, c9, cur, h1, _, _, _, h2, _⟩
            · simp only [Value.slice.injEq] at h1; omega
            · simp only [Value.slice.injEq] at h1; simp only [maxLen] at h2; omega
          have HN0 := Lib.hid hn0
          have hl0 : es.length ≤ cp := by omega
          clear SN hb2M hown2 hb2 HCC hn0
          go_wp2_with fail
          refine HSN.out.mono ?_
          rintro e w3 ⟨rfl, rfl⟩
          go_wp2_with fail
          go_ret2
          have he0 : es = [] := List.length_eq_zero_iff.1 HN0.out
          refine ⟨fun h => absurd HM0.out h, fun _ => ⟨[], av, cp, 0, rfl, by rw [he0]; rfl, hl0, hcp, List.Pairwise.nil, fun x => by rw [he0]; exact Iff.rfl, .inl rfl⟩, by rw [← HM.out]; exact HB2.out⟩
        · rcases hown2.2 with ⟨h1, h2⟩ | ⟨g, c9, cur, hv, hbg, hg, hn, hm, hs9, ht⟩
          · simp only [Value.slice.injEq] at h1; omega
          · simp only [Value.slice.injEq] at hv
            obtain ⟨rfl, _, hcc⟩ := hv
            have hcp : cp ≤ 9223372036854775807 := by simp only [maxLen] at hm; omega
            have hncp : es.length ≤ cp := by omega
            have hg2 := lt_of_heap hg
            have hgM : M ≤ g := by omega
            obtain ⟨d, hd⟩ : ∃ d, d = liftE es HOK.out := ⟨_, rfl⟩
            have hvd : vals d = es := by rw [hd]; exact vals_lift es HOK.out
            have hdl : d.toArray.size = es.length := by rw [hd]; simpa using lift_length es HOK.out
            have hdl2 : d.length = es.length := by rw [hd]; exact lift_length es HOK.out
            have eg : ∀ args w, (callFunc 75 args).run Tryd.prog w = .ok (.enter 75 args) w := enters_of Tryd.func75 (by kernel_rfl) rfl
            have SC := AnyQ.slices_SortFunc Lay.sortE 33 Tryd.isAgg35 Tryd.sizeOf35 encS encS_length (fun x => eL_one x.1) cfE swoE 75 #[] g 0 cp d.toArray w2 eg (cmpsE g 0 _ w2) (holds_of_own d (by rw [hvd]; exact hown2)) hg2 (by omega)
            change Calls Tryd.prog 74 _ _ _ at SC
            rw [hdl] at SC
            have HO2 := Lib.hid (holds_of_own d (by rw [hvd]; exact hown2))
            have HSC := Lib.hid SC
            have HB2 := Lib.hid hb2M
            have HVD := Lib.hid hvd
            have HDL := Lib.hid hdl2
            clear SC hb2M hown2 hb2 HCC hvd hdl hdl2 hd eg hg ht hs9 hn hm hcc hbg
            go_wp2_with fail
            refine HSC.out.mono ?_
            rintro e w3 ⟨rfl, d', n9, os, hp, hs, hw3⟩
            have hsz' : d'.size = d.toArray.size := hp.1
            have hH3 : HoldsK encS 33 w3 g 0 d' := by rw [hw3]; exact holdsK_sortWorldK encS 33 w2 g 0 n9 d.toArray d' os hg2 HO2.out hsz'
            have hb3 : Below M w w3 := by rw [hw3]; exact below_sortW HB2.out hgM hg2
            obtain ⟨e3, r3⟩ := rd_of_holds d'.toList (by simpa using hH3)
            obtain ⟨u1, u2, u3⟩ := sorted_up d d' (by rw [HVD.out]; exact HAP.out) (by rw [HDL.out]; exact hp) (by rw [HDL.out]; exact hs)
            have HR3 := Lib.hid r3
            have HU1 := Lib.hid u1
            have HU2 := Lib.hid u2
            have HU3 := Lib.hid u3
            have HB3 := Lib.hid hb3
            clear r3 u1 u2 u3 hb3 hH3 hsz' hp hs hw3 HSC HO2
            go_wp2_with fail
            go_ret2
            exact ⟨fun h => absurd HM0.out h, fun _ => ⟨d'.toList, _, cp, e3, rfl, by rw [HU1.out, HDL.out], hncp, hcp, HU2.out, fun x => by rw [HU3.out x, HVD.out], HR3.out⟩, by rw [← HM.out]; exact HB3.out⟩
end Go.Proofs.YtpeomfehdccmmaaDoor
