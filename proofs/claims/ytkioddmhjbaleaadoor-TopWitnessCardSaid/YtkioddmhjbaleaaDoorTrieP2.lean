/- TrieP2: texts of TrieSort, TrieSorted, TrieRoot, TriePathA, as far as this seat has their functions. -/
import Derived.Test.YtkioddmhjbaleaaDoorTrieP1
import Derived.Test.YtkioddmhjbaleaaDoorTrieLayD
import Derived.Shelf.SlSortCmp.NoneTotal
import Derived.Maps.OwnSet
import Derived.WalkArith
import Derived.Laws.MakeOwn
import Derived.OwnWalk
namespace Go.Proofs.YtkioddmhjbaleaaDoor
open Go.RowKit
set_option linter.unusedVariables false
set_option linter.unusedSimpArgs false
open Go.Shelf Go.Lib Go.Sort
def EnOk (e : En) : Prop := e.val.length = 32 ∧ 0 ≤ e.key ∧ e.key < 4294967296
abbrev EnS := {e : En // EnOk e}
instance : Inhabited EnS := ⟨⟨⟨0, nz⟩, rfl, by decide, by decide⟩⟩
def encS (e : EnS) : List Value := eL e.1
def vals (d : List EnS) : List En := d.map (·.1)
theorem encS_length (e : EnS) : (encS e).length = 33 := eL_length e.2.1
theorem vals_ok (d : List EnS) : ∀ e ∈ vals d, EnOk e := by
  intro e he
  obtain ⟨x, _, rfl⟩ := List.mem_map.1 he
  exact x.2
theorem vals_len (d : List EnS) : ∀ e ∈ vals d, e.val.length = 32 := fun e he => (vals_ok d e he).1
def cfE (x y : EnS) : Int := x.1.key - y.1.key
theorem ltE (x y : EnS) : ltOf cfE x y = decide (x.1.key < y.1.key) := by
  unfold ltOf cfE
  rw [decide_eq_decide]
  omega
theorem swoE : SWO (ltOf cfE) where
  irrefl x := by rw [ltE]; simp
  trans x y z h1 h2 := by rw [ltE, decide_eq_true_iff] at *; omega
  ntrans x y z h1 h2 := by rw [ltE, decide_eq_false_iff_not] at *; omega
theorem cmpE (x y : EnS) (W : World) : Calls Tryd.prog 146 #[.agg (encS x).toArray, .agg (encS y).toArray] W fun e w' => e = .returned (.int .i64 (cfE x y)) ∧ ∃ q os', w' = grow (W.drewN q) os' := by
  obtain ⟨X, hX⟩ : ∃ X, X = (encS x).toArray := ⟨_, rfl⟩
  obtain ⟨Y, hY⟩ : ∃ Y, Y = (encS y).toArray := ⟨_, rfl⟩
  have hw : IntKind.i64.wrap (x.1.key - y.1.key) = x.1.key - y.1.key := IntWalk.i64_in _ (by have := x.2; have := y.2; unfold EnOk at *; omega)
  have c0 : ((W.alloc (.cells X 200)).alloc (.cells Y 200)).cell? ⟨W.heap.size, 0, none⟩ = some (.int .i64 x.1.key) := by
    refine ((((Below.refl (W.heap.size + 1) (W.alloc (.cells X 200))).alloc (by rw [World.size_alloc]; omega) _).cell (p := ⟨W.heap.size, 0, none⟩) (by show W.heap.size < _; omega))).trans ?_
    rw [cell_of_row _ _ _ _ _ _ (heap_alloc_new W _), hX]; rfl
  have c1 : ((W.alloc (.cells X 200)).alloc (.cells Y 200)).cell? ⟨W.heap.size + 1, 0, none⟩ = some (.int .i64 y.1.key) := by
    have h := heap_alloc_new (W.alloc (.cells X 200)) (.cells Y 200)
    rw [World.size_alloc] at h
    rw [cell_of_row _ _ _ _ _ _ h, hY]; rfl
  rw [← hX, ← hY]
  unfold cfE
  obtain ⟨kx, hkx⟩ : ∃ k, k = x.1.key := ⟨_, rfl⟩
  obtain ⟨ky, hky⟩ : ∃ k, k = y.1.key := ⟨_, rfl⟩
  rw [← hkx] at hw c0 ⊢
  rw [← hky] at hw c1 ⊢
  clear hX hY hkx hky
  go_enter Tryd.func146, Tryd.ntmps146
  go_wp2_with fail
  go_ret
  exact ⟨rfl, 0, _, by rw [alloc_eq_grow, alloc_eq_grow, grow_grow]; rfl⟩
theorem cmpsE (blk off size : Nat) (w : World) : CmpLays Tryd.prog 146 #[] encS 33 cfE blk off size w := fun _ _ _ _ x y => cmpE x y _
/-- entries of the call's own come back -/
def RetE (w : World) (es : List En) (e : Ending) (w' : World) : Prop :=
  ∃ a cap, e = .returned (.slice a es.length cap) ∧ w'.ownsRow w.heap.size 200 33 (.slice a es.length cap) es.length (cellsE es) ∧ Below w.heap.size w w'
set_option maxRecDepth 20000 in
theorem CloneE_calls (es : List En) (hw : ∀ e ∈ es, e.val.length = 32) (a : Option Addr) (ca ea : Nat) (w : World) (ha : Rd w a ea (cellsE es)) (hx : es.length ≤ 1000000000) :
    Calls Tryd.prog 144 #[.slice a es.length ca] w (RetE w es) := by
  have hnil := fun (w : World) (a : Option Addr) (n c : Nat) => Lib.run_eql_slice_nil (P := Tryd.prog) w 161 200 a n c 0 0 Tryd.underlying161
  cases a with
  | none =>
    have h0 : es = [] := by
      rcases ha with h | ⟨b, o, cur, fr, h, _⟩
      · cases es with
        | nil => rfl
        | cons e es => rw [cellsE_cons] at h; simp [eL] at h
      · cases h
    subst h0
    go_enter Tryd.func144, Tryd.ntmps144
    go_wp2
    go_ret
    exact ⟨none, 0, rfl, World.ownsRow_nil _ _ _ _, Below.refl _ _⟩
  | some ad =>
    by_cases h0 : es = []
    · subst h0
      go_enter Tryd.func144, Tryd.ntmps144
      go_wp2
      go_ret
      exact ⟨_, 0, rfl, World.ownsRow_made w #[] 0 (Nat.le_refl _) (Nat.zero_le _) rfl, (Below.refl _ w).alloc (Nat.le_refl _) _⟩
    · have hl : 0 < es.length := by cases es with | nil => exact absurd rfl h0 | cons _ _ => simp
      have hcl := cellsE_length es hw
      obtain ⟨b, o, he, _, hc⟩ := ha.cell (k := 0) (by omega)
      simp only [Option.some.injEq] at he
      subst he
      have H0 := Lib.hid h0
      have HA := Lib.hid ha
      have HCL := Lib.hid hcl
      clear h0 ha hc hcl hw
      go_enter Tryd.func144, Tryd.ntmps144
      go_wp2_with (at_builtin; refine appRd 161 200 (.agg (eV 0 nz)) 33 40 Tryd.underlying161 info_entz (eV_size 0 nz rfl) (by omega) (by omega) rfl _ _ rfl w.heap.size _ 0 [] rfl (World.ownsRow_made w #[] 0 (Nat.le_refl _) (Nat.zero_le _) rfl) ⟨b, o, none⟩ es.length _ (cellsE es) rfl ea (HA.out.alloc _) HCL.out (cellsE_one_all es) hl (by omega) (by simp) _ rfl ?_; intro g cap w1 hown hgrow _ _)
      have hb1 : Below w.heap.size w w1 := ((Below.refl _ w).alloc (Nat.le_refl _) _).grown hgrow (by simp) (fun k hk => by have : w.heap.size = k := Option.some.inj hk; omega)
      clear hgrow
      go_wp2
      go_ret
      exact ⟨_, cap, rfl, by simpa using hown, hb1⟩
/-! the row that is sorted -/
theorem flat_cells (d : List EnS) (t : Nat) (h : t < d.length * 33) : (cellsE (vals d))[t]? = some ((flatK encS 33 d.toArray)[t]!) := by
  have hk : t / 33 < d.length := by omega
  rw [get_flatK _ _ _ t (by simpa using h)]
  have e := cellsE_get (vals d) (vals_len d) (t / 33) (t % 33) (by unfold vals; rw [List.length_map]; exact hk) (Nat.mod_lt _ (by omega))
  rw [show t / 33 * 33 + t % 33 = t by omega] at e
  rw [e]
  have e2 : (vals d)[t / 33]'(by unfold vals; rw [List.length_map]; exact hk) = (d[t / 33]).1 := by unfold vals; rw [List.getElem_map]
  have e3 : d.toArray[t / 33]! = d[t / 33] := by rw [List.getElem!_toArray, getElem!_pos d (t / 33) hk]
  rw [e2, e3]
  unfold encS
  have hj : t % 33 < (eL (d[t / 33]).1).length := by rw [eL_length (d[t / 33]).2.1]; exact Nat.mod_lt _ (by omega)
  rw [List.getElem?_eq_getElem hj, getElem!_pos (eL (d[t / 33]).1) (t % 33) hj]
theorem holds_of_own {w : World} {base g n cap : Nat} (d : List EnS) (h : w.ownsRow base 200 33 (.slice (some ⟨g, 0, none⟩) n cap) n (cellsE (vals d))) : HoldsK encS 33 w g 0 d.toArray := by
  intro j hj
  rw [size_flatK] at hj
  have hj2 : j < d.length * 33 := by simpa using hj
  have e := flat_cells d j hj2
  have hl : j < (cellsE (vals d)).length := by rw [cellsE_length _ (vals_len d)]; unfold vals; rw [List.length_map]; exact hj2
  have := own_cellS h (k := j) hl
  rw [List.getElem?_eq_getElem hl] at e
  rw [Nat.zero_add, this.1, Option.some.inj e]
  exact ⟨rfl, this.2⟩
theorem rd_of_holds {w : World} {g : Nat} (d : List EnS) (h : HoldsK encS 33 w g 0 d.toArray) : ∃ e, Rd w (some ⟨g, 0, none⟩) e (cellsE (vals d)) := by
  refine Rd.of_cellq fun i hi => ?_
  have hi2 : i < d.length * 33 := by
    have := cellsE_length _ (vals_len d)
    unfold vals at this hi
    rw [List.length_map] at this
    omega
  have := (h i (by rw [size_flatK]; simpa using hi2)).1
  have e := flat_cells d i hi2
  rw [List.getElem?_eq_getElem hi] at e
  rw [this, Option.some.inj e]
  rfl
theorem below_sortW {B g n : Nat} {w w0 : World} {d : Array EnS} {os : Array Obj} (h : Below B w0 w) (hg : B ≤ g) (hgl : g < w.heap.size) : Below B w0 (sortWorldK encS 33 w g 0 n d os) := by
  refine h.trans ⟨rfl, rfl, rfl, ?_, fun k hk => ?_⟩
  · show w.heap.size ≤ _
    unfold sortWorldK grow putRowK putRow mapBlock Sort.ahead
    simp
  · show ((mapBlock (Sort.ahead w n) g _).heap ++ os)[k]? = w.heap[k]?
    have hkl : k < w.heap.size := by omega
    rw [Array.getElem?_append_left (by unfold mapBlock Sort.ahead; simpa using hkl)]
    unfold mapBlock Sort.ahead
    simp only [Array.getElem?_modify]
    rw [if_neg (by omega)]
end Go.Proofs.YtkioddmhjbaleaaDoor

namespace Go.Proofs.YtkioddmhjbaleaaDoor
open Go.RowKit
set_option linter.unusedVariables false
set_option linter.unusedSimpArgs false
open Go.Shelf Go.Lib Go.Sort Go.Maps
/-- what is wrong, behind keys that were met -/
def scanG : List Int → List En → Int
  | _, [] => 0
  | pre, e :: r => if KeyOk e.key then (if e.key ∈ pre then 7 else scanG (pre ++ [e.key]) r) else 2
def mapF (es : List En) : Int := if 64 < es.length then 4 else scanG [] es
theorem scanG_cons (pre : List Int) (e : En) (r : List En) : scanG pre (e :: r) = if KeyOk e.key then (if e.key ∈ pre then 7 else scanG (pre ++ [e.key]) r) else 2 := rfl
theorem scan_ok : ∀ (es : List En) (pre : List Int), scanG pre es = 0 → (∀ e ∈ es, KeyOk e.key) ∧ Apart es ∧ ∀ e ∈ es, e.key ∉ pre
  | [], _, _ => ⟨fun _ h => (by cases h), List.Pairwise.nil, fun _ h => (by cases h)⟩
  | e :: r, pre, h => by
    rw [scanG_cons] at h
    split at h
    · rename_i hk
      split at h
      · cases h
      · rename_i hn
        obtain ⟨h1, h2, h3⟩ := scan_ok r _ h
        refine ⟨fun x hx => ?_, List.pairwise_cons.2 ⟨fun x hx he => ?_, h2⟩, fun x hx => ?_⟩
        · rcases List.mem_cons.1 hx with rfl | hx
          · exact hk
          · exact h1 x hx
        · exact h3 x hx (by rw [he]; simp)
        · rcases List.mem_cons.1 hx with rfl | hx
          · exact hn
          · exact fun hm => h3 x hx (List.mem_append_left _ hm)
    · cases h
def liftE (es : List En) (h : ∀ e ∈ es, EnOk e) : List EnS := es.attach.map fun x => ⟨x.1, h x.1 x.2⟩
theorem vals_lift (es : List En) (h : ∀ e ∈ es, EnOk e) : vals (liftE es h) = es := by
  unfold vals liftE
  rw [List.map_map]
  exact List.attach_map_subtype_val es
theorem lift_length (es : List En) (h : ∀ e ∈ es, EnOk e) : (liftE es h).length = es.length := by unfold liftE; simp
/-- a sorted row of entries whose keys are apart -/
theorem sorted_up (es : List EnS) (d' : Array EnS) (ha : Apart (vals es)) (hp : PermIn 0 es.length es.toArray d') (hs : SortedIn (ltOf cfE) 0 es.length d') : d'.toList.length = es.length ∧ Up (vals d'.toList) ∧ ∀ x, x ∈ vals d'.toList ↔ x ∈ vals es := by
  obtain ⟨h1, _, h3⟩ := hp
  have hsz : d'.size = es.length := by simpa using h1
  rw [show d'.extract 0 es.length = d' by rw [← hsz]; simp, show es.toArray.extract 0 es.length = es.toArray by simp] at h3
  have hperm : (vals d'.toList).Perm (vals es) := by unfold vals; exact List.Perm.map _ (by simpa using h3)
  have hap : Apart (vals d'.toList) := (List.Perm.pairwise_iff (fun {a b} h => fun e => h e.symm) hperm).2 ha
  refine ⟨by simpa using hsz, ?_, fun x => hperm.mem_iff⟩
  unfold Up
  rw [List.pairwise_iff_getElem]
  intro i j hi hj hij
  have hap2 := List.pairwise_iff_getElem.1 hap i j hi hj hij
  unfold vals at hi hj hap2 ⊢
  rw [List.length_map, Array.length_toList] at hi hj
  simp only [List.getElem_map, Array.getElem_toList] at hap2 ⊢
  have := hs i j (Nat.zero_le _) hij (by omega)
  rw [ltE, decide_eq_false_iff_not, getElem!_pos d' j hj, getElem!_pos d' i hi] at this
  omega
theorem mapLaw : Keyed Tryd.prog 3 := int_keyed Tryd.underlying3
theorem mapZero (w : World) : (zeroValue 3).run Tryd.prog w = .ok (.int .i64 0) w := by kernel_rfl
theorem has_step {D : DataW Unit} {pre post : List Int} {x : Int} {d : DataW Unit} (hD : IsMap D) (hk : WideAt.IsKeyLit (.int .i64 x)) (h : ∀ y : Int, Maps.has D (.int .i64 y) = decide (y ∈ pre)) (hp : post = pre ++ [x]) (y : Int) : Maps.has (D.put (.int .i64 x) d) (.int .i64 y) = decide (y ∈ post) := by
  by_cases e : y = x
  · subst e
    rw [has_put_same hD hk, decide_eq_true (by rw [hp]; simp)]
  · rw [has_put_other (fun h => e (by cases h; rfl)), h, hp, decide_eq_decide]
    simp [e]
theorem hkey_lit {x : Int} : WideAt.IsKeyLit (.int .i64 x) := by trivial
def SortedRet (w : World) (es : List En) (e : Ending) (w' : World) : Prop :=
  (mapF es ≠ 0 → e = .returned (.tuple #[.slice none 0 0, .iface 41 (.int .i64 (mapF es))])) ∧
  (mapF es = 0 → ∃ (d : List EnS) (a : Option Addr) (cap e' : Nat), e = .returned (.tuple #[.slice a es.length cap, .nilIface]) ∧ d.length = es.length ∧ es.length ≤ cap ∧ cap ≤ 9223372036854775807 ∧ Up (vals d) ∧ (∀ x, x ∈ vals d ↔ x ∈ es) ∧ Rd w' a e' (cellsE (vals d))) ∧ Below w.heap.size w w'
theorem bad_ret {w : World} {es : List En} {w' : World} (n : Int) (h : mapF es = n) (hn : n ≠ 0) (hb : Below w.heap.size w w') : SortedRet w es (.returned (.tuple #[.slice none 0 0, .iface 41 (.int .i64 n)])) w' :=
  ⟨fun _ => by rw [h], fun h0 => absurd (h.symm.trans h0) hn, hb⟩
set_option maxRecDepth 100000 in
set_option maxHeartbeats 8000000 in
theorem Sorted_calls (es : List En) (hw : ∀ e ∈ es, EnW e) (a : Option Addr) (cap ea : Nat) (hc1 : es.length ≤ cap) (hc2 : cap ≤ 9223372036854775807) (w : World) (hr : Rd w a ea (cellsE es)) :
    Calls Tryd.prog 129 #[.slice a es.length cap] w (SortedRet w es) := by
  have hlen : ∀ e ∈ es, e.val.length = 32 := fun e he => (hw e he).1
  by_cases h64 : 64 < es.length
  · have hf : mapF es = 4 := by unfold mapF; rw [if_pos h64]
    have z1 : (64 : Int) < (es.length : Int) := by omega
    have HF := Lib.hid hf
    clear hf hr hlen hw
    go_enter Tryd.func129, Tryd.ntmps129
    go_wp2_with fail
    go_ret2
    exact bad_ret 4 HF.out (by decide) (Below.refl _ _)
  · have z1 : ¬ (64 : Int) < (es.length : Int) := by omega
    obtain ⟨F, hF⟩ : ∃ F, F = scanG [] es := ⟨_, rfl⟩
    have hf : mapF es = F := by unfold mapF; rw [if_neg h64, hF]
    have HF := Lib.hid hf
    have HS := Lib.hid hF
    have HL := Lib.hid hlen
    have HWW := Lib.hid hw
    have HR := Lib.hid hr
    obtain ⟨M, hM⟩ : ∃ M, M = w.heap.size := ⟨_, rfl⟩
    have HM := Lib.hid hM
    have hmm := @run_makeMap Tryd.prog
    clear hf hF hlen hw hr hM
    go_enter Tryd.func129, Tryd.ntmps129
    go_wp2_with fail
    rw [← HM.out]
    go_loopw [17] (fun i wr => ∃ (k : Nat) (D : DataW Unit), k ≤ es.length ∧ i = .int .i64 k ∧ wr.ownsMap Tryd.prog 3 (plainElem (H := Unit) Tryd.prog 3) M k D ∧ (∀ x : Int, Maps.has D (.int .i64 x) = decide (x ∈ (es.take k).map (·.key))) ∧ scanG ((es.take k).map (·.key)) (es.drop k) = F ∧ Below M w wr) (fun i _ => es.length - (intOf i).toNat)
    case atStart => exact ⟨0, .map [], Nat.zero_le _, rfl, by rw [HM.out]; exact World.ownsMap_made _ _ _ _, fun x => by simp; rfl, by rw [HS.out]; rfl, by rw [HM.out]; exact (Below.refl _ _).alloc (Nat.le_refl _) _⟩
    case round =>
      obtain ⟨k, D, hk, rfl, hown, hhas, hsc, hbl⟩ := hrel
      have hMr := hown.lt
      by_cases hlt : k < es.length
      · obtain ⟨b, o, rfl, hb, hrg⟩ := HR.out.ent HL.out hlt
        have hrg2 : wr.rangeAt b (o + k * 33) (eL es[k]) := range_low hrg hbl (by rw [HM.out]; exact hb)
        have he32 := HL.out _ (List.getElem_mem hlt)
        have hbw := (HWW.out _ (List.getElem_mem hlt)).2
        have hdrop : es.drop k = es[k] :: es.drop (k + 1) := List.drop_eq_getElem_cons hlt
        have htake : (es.take (k + 1)).map (·.key) = (es.take k).map (·.key) ++ [es[k].key] := by
          rw [List.take_succ_eq_append_getElem hlt, List.map_append]; rfl
        rw [hdrop, scanG_cons] at hsc
        have k0 : (0 : Int) ≤ (k : Int) := by omega
        have k1 : (k : Int) < (es.length : Int) := by omega
        obtain ⟨E, hE⟩ : ∃ E, E = es[k] := ⟨_, rfl⟩
        rw [← hE] at hrg2 he32 hbw htake hsc
        obtain ⟨w1, hw1⟩ : ∃ z, z = wr.alloc (.cells (eV E.key E.val) 200) := ⟨_, rfl⟩
        have c0 : w1.cell? ⟨wr.heap.size, 0, none⟩ = some (.int .i64 E.key) := by rw [hw1]; exact eV_key (heap_alloc_new wr _)
        have hown1 : w1.ownsMap Tryd.prog 3 (plainElem (H := Unit) Tryd.prog 3) M k D := by rw [hw1]; exact hown.alloc _
        have hb1 : Below M w w1 := by rw [hw1]; exact hbl.alloc (by omega) _
        have kk := Key_calls E.key w1
        have hkey : keyOf Tryd.prog 3 (.int .i64 E.key) = some (.int .i64 E.key) := keyOf_int_mk Tryd.underlying3 (WalkArith.wf_i64 (by omega))
        have HRG := Lib.hid hrg2
        have H32 := Lib.hid he32
        have HTK := Lib.hid htake
        have HSC := Lib.hid hsc
        have HW1 := Lib.hid hw1
        have HO1 := Lib.hid hown1
        have HB1 := Lib.hid hb1
        have HHAS := Lib.hid hhas
        have HKEY := Lib.hid hkey
        clear hrg hrg2 he32 hdrop htake hsc hE hw1 hown1 hb1 hown hhas hbl hkey
        by_cases hko : KeyOk E.key
        · rw [decide_eq_true hko] at kk
          have KK := Lib.hid kk
          by_cases hin : E.key ∈ (es.take k).map (·.key)
          · have hh : Maps.has D (.int .i64 E.key) = true := by rw [HHAS.out]; exact decide_eq_true hin
            have h7 : F = 7 := by have := HSC.out; rw [if_pos hko, if_pos hin] at this; exact this.symm
            have HH := Lib.hid hh
            have H7 := Lib.hid h7
            clear hin hh h7 kk
            go_wp2_with (first
              | ((refine ld_entG rfl (.tmp 20) rfl b (o + k * 33) (by rfl) E H32.out HRG.out ?_); simp only [Act.put, List.setIfInBounds_toArray, List.set_cons_zero, List.set_cons_succ])
              | ((refine st_entNew rfl (.tmp 6) (.tmp 21) rfl E H32.out (by rfl) _ _ (by rfl) (by rfl) ?_); rw [← HW1.out])
              | (go_at_call 130; refine KK.out.mono ?_; rintro e w' ⟨rfl, rfl⟩)
              | (at_lookup; refine wpList_lookup_own_ok_int _ rfl _ _ 226 rfl 3 3 .i64 mapLaw Tryd.underlying226 Tryd.underlying3 (mapZero _) M k D rfl HO1.out _ _ rfl HKEY.out ?_; intro c hat hwc; rw [HH.out]))
            go_ret2
            exact bad_ret 7 (by rw [HF.out, H7.out]) (by decide) (by rw [← HM.out]; exact HB1.out)
          · have hh : Maps.has D (.int .i64 E.key) = false := by rw [HHAS.out]; exact decide_eq_false hin
            have h7 : scanG ((es.take (k + 1)).map (·.key)) (es.drop (k + 1)) = F := by have := HSC.out; rw [if_pos hko, if_neg hin] at this; rw [HTK.out]; exact this
            have HH := Lib.hid hh
            have H7 := Lib.hid h7
            clear hh h7 kk
            go_wp2_with (first
              | ((refine ld_entG rfl (.tmp 20) rfl b (o + k * 33) (by rfl) E H32.out HRG.out ?_); simp only [Act.put, List.setIfInBounds_toArray, List.set_cons_zero, List.set_cons_succ])
              | ((refine st_entNew rfl (.tmp 6) (.tmp 21) rfl E H32.out (by rfl) _ _ (by rfl) (by rfl) ?_); rw [← HW1.out])
              | (go_at_call 130; refine KK.out.mono ?_; rintro e w' ⟨rfl, rfl⟩)
              | (at_mapUpdate; refine wpList_mapUpdate_own _ rfl _ _ _ 226 rfl 3 3 mapLaw Tryd.underlying226 _ M k D rfl HO1.out (by unfold maxLen; omega) _ _ _ rfl rfl HKEY.out _ [] (plainElem_int Tryd.underlying3 (WalkArith.wf_i64 (by omega))) ?_; intro w2 hown2 hgrow2)
              | (at_lookup; refine wpList_lookup_own_ok_int _ rfl _ _ 226 rfl 3 3 .i64 mapLaw Tryd.underlying226 Tryd.underlying3 (mapZero _) M k D rfl HO1.out _ _ rfl HKEY.out ?_; intro c hat hwc; rw [HH.out]))
            go_roundw
            case rel => exact ⟨k + 1, _, hlt, by go_num, hown2, has_step HO1.out.isMap hkey_lit HHAS.out HTK.out, H7.out, HB1.out.grown hgrow2 (by have := HB1.out.size; rw [HM.out]; exact this) (fun j hj => by cases hj; exact Nat.le_refl _)⟩
            case measure => simp [intOf]; omega
        · rw [decide_eq_false hko] at kk
          have KK := Lib.hid kk
          have h7 : F = 2 := by have := HSC.out; rw [if_neg hko] at this; exact this.symm
          have H7 := Lib.hid h7
          clear h7 kk hko
          go_wp2_with (first
            | ((refine ld_entG rfl (.tmp 20) rfl b (o + k * 33) (by rfl) E H32.out HRG.out ?_); simp only [Act.put, List.setIfInBounds_toArray, List.set_cons_zero, List.set_cons_succ])
            | ((refine st_entNew rfl (.tmp 6) (.tmp 21) rfl E H32.out (by rfl) _ _ (by rfl) (by rfl) ?_); rw [← HW1.out])
            | (go_at_call 130; refine KK.out.mono ?_; rintro e w' ⟨rfl, rfl⟩))
          go_ret2
          exact bad_ret 2 (by rw [HF.out, H7.out]) (by decide) (by rw [← HM.out]; exact HB1.out)
      · obtain rfl : k = es.length := by omega
        rw [List.drop_eq_nil_of_le (Nat.le_refl _)] at hsc
        have hF0 : F = 0 := hsc.symm
        obtain ⟨hok, hap, _⟩ := scan_ok es [] (by rw [← HS.out]; exact hF0)
        have henok : ∀ e ∈ es, EnOk e := fun e he => ⟨HL.out e he, hok e he⟩
        have hm0 : mapF es = 0 := HF.out.trans hF0
        obtain ⟨wA, rfl⟩ : ∃ x, x = wr := ⟨_, rfl⟩
        have rA : Rd wA a ea (cellsE es) := HR.out.below (by rw [← HM.out]; exact hbl)
        have CC := CloneE_calls es HL.out a cap ea wA rA (by omega)
        have HCC := Lib.hid CC
        have HBL := Lib.hid hbl
        have HOK := Lib.hid henok
        have HAP := Lib.hid hap
        have HM0 := Lib.hid hm0
        clear CC hbl henok hap hm0 hok hsc hF0 hhas hown rA
        go_wp2_with fail
        refine HCC.out.mono ?_
        rintro e w2 ⟨av, cp, rfl, hown2, hb2⟩
        have hb2M : Below M w w2 := HBL.out.trans (hb2.mono (by omega))
        by_cases hn0 : es.length = 0
        · have SN : Calls Tryd.prog 145 #[.slice av es.length cp, .func (.func 146) #[] #[]] w2 fun e w' => e = .returned (.tuple #[]) ∧ w' = w2 := by
            rw [hn0]; exact AnyF.slices_SortFunc_none Lay.sortE av cp _ w2
          have HSN := Lib.hid SN
          have HB2 := Lib.hid hb2M
          have hcp : cp ≤ 9223372036854775807 := by
            rcases hown2.2 with ⟨h1, _⟩ | ⟨g, c9, cur, h1, _, _, _, h2, _⟩
            · simp only [Value.slice.injEq] at h1; omega
            · simp only [Value.slice.injEq] at h1; simp only [maxLen] at h2; omega
          have HN0 := Lib.hid hn0
          have hl0 : es.length ≤ cp := by omega
          clear SN hb2M hown2 hb2 HCC hn0
          go_wp2_with fail
          refine HSN.out.mono ?_
          rintro e w3 ⟨rfl, rfl⟩
          go_wp2_with fail
          go_ret2
          have he0 : es = [] := List.length_eq_zero_iff.1 HN0.out
          refine ⟨fun h => absurd HM0.out h, fun _ => ⟨[], av, cp, 0, rfl, by rw [he0]; rfl, hl0, hcp, List.Pairwise.nil, fun x => by rw [he0]; exact Iff.rfl, .inl rfl⟩, by rw [← HM.out]; exact HB2.out⟩
        · rcases hown2.2 with ⟨h1, h2⟩ | ⟨g, c9, cur, hv, hbg, hg, hn, hm, hs9, ht⟩
          · simp only [Value.slice.injEq] at h1; omega
          · simp only [Value.slice.injEq] at hv
            obtain ⟨rfl, _, hcc⟩ := hv
            have hcp : cp ≤ 9223372036854775807 := by simp only [maxLen] at hm; omega
            have hncp : es.length ≤ cp := by omega
            have hg2 := lt_of_heap hg
            have hgM : M ≤ g := by omega
            obtain ⟨d, hd⟩ : ∃ d, d = liftE es HOK.out := ⟨_, rfl⟩
            have hvd : vals d = es := by rw [hd]; exact vals_lift es HOK.out
            have hdl : d.toArray.size = es.length := by rw [hd]; simpa using lift_length es HOK.out
            have hdl2 : d.length = es.length := by rw [hd]; exact lift_length es HOK.out
            have eg : ∀ args w, (callFunc 146 args).run Tryd.prog w = .ok (.enter 146 args) w := enters_of Tryd.func146 (by kernel_rfl) rfl
            have SC := AnyQ.slices_SortFunc Lay.sortE 33 Tryd.isAgg200 Tryd.sizeOf200 encS encS_length (fun x => eL_one x.1) cfE swoE 146 #[] g 0 cp d.toArray w2 eg (cmpsE g 0 _ w2) (holds_of_own d (by rw [hvd]; exact hown2)) hg2 (by omega)
            change Calls Tryd.prog 145 _ _ _ at SC
            rw [hdl] at SC
            have HO2 := Lib.hid (holds_of_own d (by rw [hvd]; exact hown2))
            have HSC := Lib.hid SC
            have HB2 := Lib.hid hb2M
            have HVD := Lib.hid hvd
            have HDL := Lib.hid hdl2
            clear SC hb2M hown2 hb2 HCC hvd hdl hdl2 hd eg hg ht hs9 hn hm hcc hbg
            go_wp2_with fail
            refine HSC.out.mono ?_
            rintro e w3 ⟨rfl, d', n9, os, hp, hs, hw3⟩
            have hsz' : d'.size = d.toArray.size := hp.1
            have hH3 : HoldsK encS 33 w3 g 0 d' := by rw [hw3]; exact holdsK_sortWorldK encS 33 w2 g 0 n9 d.toArray d' os hg2 HO2.out hsz'
            have hb3 : Below M w w3 := by rw [hw3]; exact below_sortW HB2.out hgM hg2
            obtain ⟨e3, r3⟩ := rd_of_holds d'.toList (by simpa using hH3)
            obtain ⟨u1, u2, u3⟩ := sorted_up d d' (by rw [HVD.out]; exact HAP.out) (by rw [HDL.out]; exact hp) (by rw [HDL.out]; exact hs)
            have HR3 := Lib.hid r3
            have HU1 := Lib.hid u1
            have HU2 := Lib.hid u2
            have HU3 := Lib.hid u3
            have HB3 := Lib.hid hb3
            clear r3 u1 u2 u3 hb3 hH3 hsz' hp hs hw3 HSC HO2
            go_wp2_with fail
            go_ret2
            exact ⟨fun h => absurd HM0.out h, fun _ => ⟨d'.toList, _, cp, e3, rfl, by rw [HU1.out, HDL.out], hncp, hcp, HU2.out, fun x => by rw [HU3.out x, HVD.out], HR3.out⟩, by rw [← HM.out]; exact HB3.out⟩
end Go.Proofs.YtkioddmhjbaleaaDoor

namespace Go.Proofs.YtkioddmhjbaleaaDoor
open Go.RowKit
set_option linter.unusedVariables false
set_option linter.unusedSimpArgs false
open Go.Shelf Go.Lib Go.Sort
theorem idx_take {α : Type} (p : α → Bool) (x : α) : ∀ (l : List α) (i : Nat), idxByFrom (fun _ y => p y) x l i = if l.any p then ((i + (l.takeWhile fun y => !(p y)).length : Nat) : Int) else -1
  | [], i => rfl
  | y :: r, i => by
    rw [idxByFrom]
    cases h : p y with
    | true => simp [h]
    | false =>
      rw [idx_take p x r (i + 1)]
      simp only [List.any_cons, h, Bool.false_or, List.takeWhile_cons, Bool.not_false, if_true, List.length_cons]
      by_cases h2 : r.any p = true
      · rw [if_pos h2, if_pos h2]
        simp; omega
      · rw [if_neg h2, if_neg h2]; simp
theorem no_drop {α : Type} (p : α → Bool) (l : List α) (h : l.any p = false) : (l.takeWhile fun y => !(p y)) = l ∧ (l.dropWhile fun y => !(p y)) = [] := by
  induction l with
  | nil => exact ⟨rfl, rfl⟩
  | cons y l ih =>
    rw [List.any_cons, Bool.or_eq_false_iff] at h
    obtain ⟨h1, h2⟩ := ih h.2
    simp only [List.takeWhile_cons, List.dropWhile_cons, h.1, Bool.not_false, if_true, h1, h2, and_self]
theorem any_lt {α : Type} (p : α → Bool) : ∀ (l : List α), l.any p = true → (l.takeWhile fun y => !(p y)).length < l.length
  | [], h => by simp at h
  | y :: r, h => by
    cases hy : p y with
    | true => simp [hy]
    | false =>
      rw [List.any_cons, hy, Bool.false_or] at h
      have := any_lt p r h
      simp only [List.takeWhile_cons, hy, Bool.not_false, if_true, List.length_cons]
      omega
theorem take_split {α : Type} (p : α → Bool) : ∀ (l : List α), (l.takeWhile p) = l.take (l.takeWhile p).length ∧ (l.dropWhile p) = l.drop (l.takeWhile p).length
  | [] => ⟨rfl, rfl⟩
  | y :: r => by
    obtain ⟨h1, h2⟩ := take_split p r
    cases h : p y with
    | true => simp only [List.takeWhile_cons, List.dropWhile_cons, h, if_true, List.length_cons, List.take_succ_cons, List.drop_succ_cons]; exact ⟨by rw [← h1], h2⟩
    | false => simp [h]
theorem vals_take (d : List EnS) (p : En → Bool) : vals (d.takeWhile fun x => p x.1) = (vals d).takeWhile p ∧ vals (d.dropWhile fun x => p x.1) = (vals d).dropWhile p := by
  induction d with
  | nil => exact ⟨rfl, rfl⟩
  | cons x d ih =>
    obtain ⟨h1, h2⟩ := ih
    unfold vals at h1 h2 ⊢
    cases h : p x.1 with
    | true => simp only [List.takeWhile_cons, List.dropWhile_cons, h, if_true, List.map_cons]; exact ⟨by rw [h1], h2⟩
    | false => simp [h]
def bitP (b : Nat) (x : EnS) : Bool := bitE b x.1
theorem predH (b B : Nat) (hb32 : b < 32) (w : World) (hB : B < w.heap.size) (hcell : w.cell? ⟨B, 0, none⟩ = some (.int .i64 (b : Int))) :
    PredBelow Tryd.prog 148 #[.pointer (some ⟨B, 0, none⟩)] (fun x => .agg (encS x).toArray) (bitP b) w := fun W x hb => by
  obtain ⟨X, hX⟩ : ∃ X, X = (encS x).toArray := ⟨_, rfl⟩
  obtain ⟨k, hk⟩ : ∃ k : Nat, x.1.key = (k : Int) := ⟨x.1.key.toNat, by have := x.2.2.1; omega⟩
  have hk2 : k < 4294967296 := by have := x.2.2.2; omega
  have c0 : (W.alloc (.cells X 200)).cell? ⟨W.heap.size, 0, none⟩ = some (.int .i64 (k : Int)) := by
    rw [cell_of_row _ _ _ _ _ _ (heap_alloc_new W _), hX, ← hk]; rfl
  have hBW : B < W.heap.size := Nat.lt_of_lt_of_le hB hb.size
  have c1 : (W.alloc (.cells X 200)).cell? ⟨B, 0, none⟩ = some (.int .i64 (b : Int)) :=
    (((Below.refl W.heap.size W).alloc (Nat.le_refl _) _).cell (p := ⟨B, 0, none⟩) hBW).trans ((hb.cell (p := ⟨B, 0, none⟩) hB).trans hcell)
  have hfin : Below w.heap.size w (W.alloc (.cells X 200)) := hb.alloc hb.size _
  obtain ⟨y, hy⟩ : ∃ y, y = k / 2 ^ b := ⟨_, rfl⟩
  have e5 : (k : Int) / 2 ^ b = (y : Int) := by rw [hy]; exact shr_bit k b
  have hyl : y < 9223372036854775808 := by rw [hy]; exact Nat.lt_of_le_of_lt (Nat.div_le_self _ _) (by omega)
  have hp : bitP b x = (y % 2 == 1) := by
    unfold bitP bitE
    rw [hk, Int.toNat_natCast, ← hy]
  have e6 : (bits BinOp.and IntKind.i64 (y : Int) 1 == 1) = bitP b x := by
    rw [and_one y hyl, hp]
    rw [Bool.eq_iff_iff, beq_iff_eq, beq_iff_eq]; omega
  obtain ⟨q, hq⟩ : ∃ q, q = bitP b x := ⟨_, rfl⟩
  rw [← hq] at e6 ⊢
  have b0 : (0 : Int) ≤ (b : Int) := by omega
  have b1 : (b : Int) < 32 := by omega
  show Calls Tryd.prog 148 #[.agg (encS x).toArray, .pointer (some ⟨B, 0, none⟩)] W _
  rw [← hX]
  have HF := Lib.hid hfin
  clear hX hk hy hp hq hfin hb hcell hyl
  go_enter Tryd.func148, Tryd.ntmps148
  go_wp2_with fail
  go_ret
  exact ⟨rfl, HF.out⟩
def HalvesRet (w : World) (b : Nat) (zs : List EnS) (a : Option Addr) (ea : Nat) (e : Ending) (w' : World) : Prop :=
  ∃ a1 c1 a2 c2, e = .returned (.tuple #[.slice a1 (zs.takeWhile fun x => !(bitP b x)).length c1, .slice a2 (zs.dropWhile fun x => !(bitP b x)).length c2]) ∧ (zs.takeWhile fun x => !(bitP b x)).length ≤ c1 ∧ c1 ≤ 9223372036854775807 ∧ (zs.dropWhile fun x => !(bitP b x)).length ≤ c2 ∧ c2 ≤ 9223372036854775807 ∧
    (∀ v, Rd v a ea (cellsE (vals zs)) → Rd v a1 ea (cellsE (vals (zs.takeWhile fun x => !(bitP b x))))) ∧ (∀ v, Rd v a ea (cellsE (vals zs)) → Rd v a2 ea (cellsE (vals (zs.dropWhile fun x => !(bitP b x))))) ∧ Below w.heap.size w w'
theorem Index_none (v : Value) (a : Option Addr) (c : Nat) (w : World) : Calls Tryd.prog 147 #[.slice a 0 c, v] w fun e w' => e = .returned (.int .i64 (-1)) ∧ w = w' := by
  go_enter Tryd.func147, Tryd.ntmps147
  go_wp2
  refine wp_loop_rounds 1 ?_
  rw [rounds_succ]
  go_wp2
  go_ret
  exact ⟨rfl, rfl⟩
set_option maxRecDepth 20000 in
set_option maxHeartbeats 4000000 in
theorem Halves_calls (b : Nat) (hb32 : b < 32) (zs : List EnS) (a : Option Addr) (cap ea : Nat) (hn : zs.length ≤ cap) (hcap : cap ≤ 9223372036854775807) (w : World) (hr : Rd w a ea (cellsE (vals zs))) :
    Calls Tryd.prog 131 #[.slice a zs.length cap, .int .i64 (b : Int)] w (HalvesRet w b zs a ea) := by
  obtain ⟨H, hH⟩ : ∃ H, H = w.heap.size := ⟨_, rfl⟩
  obtain ⟨w0, hw0⟩ : ∃ z, z = w.alloc (.cells #[.int .i64 (b : Int)] 3) := ⟨_, rfl⟩
  have q0 : w0.heap.size = H + 1 := by rw [hw0, hH]; exact World.size_alloc _ _
  have s0 : Below (H) w w0 := by rw [hw0, hH]; exact (Below.refl _ _).alloc (Nat.le_refl _) _
  have t0 : Below (H + 1) w0 w0 := Below.refl _ _
  have bL : Below H w w0 := s0.trans (t0.mono (by omega))
  have g0 : w0.heap[H]? = some (.cells #[.int .i64 (b : Int)] 3 (0, 0)) := by
    have g : w0.heap[H]? = some (.cells #[.int .i64 (b : Int)] 3 (0, 0)) := by rw [hw0, hH]; exact heap_alloc_new _ _
    exact (t0.block _ (by omega)).trans g
  have bW : Below w.heap.size w w0 := by rw [← hH]; exact bL
  have hsz : H < w0.heap.size := by omega
  have HH := Lib.hid hH
  have HW0 := Lib.hid hw0
  have BL := Lib.hid bL
  have BW := Lib.hid bW
  have QL := Lib.hid q0
  have G0 := Lib.hid g0
  clear hH hw0 q0 s0 t0 g0 bL bW
  have hr0 := hr.below BW.out
  have cb : w0.cell? ⟨H, 0, none⟩ = some (.int .i64 (b : Int)) := by rw [cell_of_row _ _ _ _ _ _ G0.out]; rfl
  by_cases h0 : zs = []
  · subst h0
    have IN := Index_none (.func (.func 148) #[] #[.pointer (some ⟨H, 0, none⟩)]) a cap w0
    have HIN := Lib.hid IN
    have HR := Lib.hid hr0
    clear IN hr0 hr cb hn
    go_enter Tryd.func131, Tryd.ntmps131
    go_wp2_with fail
    rw [← HH.out, ← HW0.out]
    refine HIN.out.mono ?_
    rintro e w' ⟨rfl, rfl⟩
    go_wp2_with fail
    go_ret2
    exact ⟨a, cap, none, 0, rfl, Nat.zero_le _, hcap, Nat.zero_le _, by decide, fun _ _ => .inl rfl, fun _ _ => .inl rfl, by rw [← HH.out]; exact BL.out⟩
  · have hl0 : 0 < zs.length := by cases zs with | nil => exact absurd rfl h0 | cons _ _ => simp
    have hvl : (vals zs).length = zs.length := by unfold vals; rw [List.length_map]
    have hcl := cellsE_length _ (vals_len zs)
    obtain ⟨g, o, rfl, hgl, hc⟩ := hr0.cell (k := 0) (by omega)
    have eg : ∀ args w, (callFunc 148 args).run Tryd.prog w = .ok (.enter 148 args) w := enters_of Tryd.func148 (by kernel_rfl) rfl
    have IC := AnyQ.slices_IndexFunc Lay.idxE 33 Tryd.isAgg200 Tryd.sizeOf200 encS encS_length (bitP b) 148 #[.pointer (some ⟨H, 0, none⟩)] eg g o zs.length cap zs w0
      (predH b H hb32 w0 (by have := QL.out; omega) cb) (Nat.le_refl _) (by omega) hgl (fun j hj i v hi => by
        rw [getElem!_pos zs j hj] at hi
        have hi2 : i < 33 := by have := (List.getElem?_eq_some_iff.1 hi).1; rwa [encS_length] at this
        have e1 := cellsE_get (vals zs) (vals_len zs) j i (by omega) hi2
        have e2 : (vals zs)[j]'(by omega) = zs[j].1 := by unfold vals; rw [List.getElem_map]
        rw [e2] at e1
        have hlt : j * 33 + i < (cellsE (vals zs)).length := by omega
        have := hc (j * 33 + i) hlt
        rw [show o + (j * 33 + i) = o + j * 33 + i by omega] at this
        rw [this]
        rw [List.getElem?_eq_getElem hlt] at e1
        rw [e1]; exact hi)
    change Calls Tryd.prog 147 _ _ _ at IC
    rw [List.take_of_length_le (Nat.le_refl _), idxBy, idx_take, Nat.zero_add] at IC
    obtain ⟨n1, hn1⟩ : ∃ n1, n1 = (zs.takeWhile fun x => !(bitP b x)).length := ⟨_, rfl⟩
    have ts := take_split (fun x => !(bitP b x)) zs
    rw [← hn1] at IC ts
    have hn1l : n1 ≤ zs.length := by rw [hn1]; exact (List.takeWhile_sublist _).length_le
    have HR := Lib.hid hr0
    have HTS := Lib.hid ts
    have HN1 := Lib.hid hn1
    by_cases hany : zs.any (bitP b) = true
    · rw [if_pos hany] at IC
      have HIC := Lib.hid IC
      have i0 : (0 : Int) ≤ (n1 : Int) := by omega
      have i1 : (n1 : Int) ≤ (cap : Int) := by omega
      have i2 : (n1 : Int) ≤ (zs.length : Int) := by omega
      have i3 : ¬ (n1 : Int) < 0 := by omega
      have i7 := any_lt (bitP b) zs hany
      rw [← hn1] at i7
      have i8 : n1 ≠ cap := by omega
      have i9 : (n1 : Int) ≠ (cap : Int) := by omega
      have j1 : (zs.dropWhile fun x => !(bitP b x)).length = zs.length - n1 := by rw [ts.2, List.length_drop]
      have J1 := Lib.hid j1
      clear j1
      have i4 : ((zs.length : Int) - (n1 : Int)).toNat = zs.length - n1 := by omega
      have i5 : ((cap : Int) - (n1 : Int)).toNat = cap - n1 := by omega
      clear IC hr0 hr cb hcl hvl hc hgl eg ts hn1 hany h0
      go_enter Tryd.func131, Tryd.ntmps131
      go_wp2_with fail
      rw [← HH.out, ← HW0.out]
      refine HIC.out.mono ?_
      rintro e w2 ⟨rfl, hb2⟩
      have B2 := Lib.hid (BL.out.trans (hb2.mono (by omega)))
      have HR2 := Lib.hid (HR.out.below hb2)
      clear hb2 HIC
      go_wp2_with fail
      go_quiet (fail)
      go_wp2
      go_ret2
      unfold HalvesRet
      rw [← HN1.out, J1.out]
      refine ⟨_, cap, _, cap - n1, rfl, by omega, hcap, by omega, by omega, fun v hv => ?_, fun v hv => ?_, by rw [← HH.out]; exact below_drewN B2.out _⟩
      · rw [HTS.out.1]
        have := hv.take (n1 * 33)
        rw [← cellsE_take _ _ (vals_len zs)] at this
        unfold vals at this ⊢
        rwa [← List.map_take] at this
      · rw [HTS.out.2]
        have := hv.drop (n1 * 33)
        rw [cellsE_drop _ _ (vals_len zs)] at this
        unfold vals at this ⊢
        rwa [← List.map_drop] at this
    · have hany2 : zs.any (bitP b) = false := by simpa using hany
      rw [if_neg hany] at IC
      obtain ⟨nd1, nd2⟩ := no_drop (bitP b) zs hany2
      have HIC := Lib.hid IC
      have ND1 := Lib.hid nd1
      have ND2 := Lib.hid nd2
      clear IC hr0 hr cb hcl hvl hc hgl eg ts hn1 hany h0 hany2 nd1 nd2
      go_enter Tryd.func131, Tryd.ntmps131
      go_wp2_with fail
      rw [← HH.out, ← HW0.out]
      refine HIC.out.mono ?_
      rintro e w2 ⟨rfl, hb2⟩
      have B2 := Lib.hid (BL.out.trans (hb2.mono (by omega)))
      have HR2 := Lib.hid (HR.out.below hb2)
      clear hb2 HIC
      go_wp2_with fail
      go_ret2
      unfold HalvesRet
      rw [ND1.out, ND2.out]
      exact ⟨_, cap, none, 0, rfl, hn, hcap, Nat.zero_le _, by decide, fun v hv => hv, fun _ _ => .inl rfl, by rw [← HH.out]; exact B2.out⟩
set_option maxRecDepth 20000 in
set_option maxHeartbeats 4000000 in
theorem Root_calls : ∀ (b : Nat), b ≤ 32 → ∀ (zs : List EnS) (a : Option Addr) (cap ea : Nat), zs.length ≤ cap → cap ≤ 9223372036854775807 → ∀ (w : World), Rd w a ea (cellsE (vals zs)) → RoundsAt w →
    Calls Tryd.prog 132 #[.slice a zs.length cap, .int .i64 (b : Int)] w fun e w' => e = .returned (.agg (dV (rootL b (vals zs)))) ∧ Below w.heap.size w w' := by
  intro b
  induction b with
  | zero =>
    intro _ zs a cap ea hn hcap w hr hro
    obtain ⟨Z, hZ⟩ : ∃ Z, Z = nz := ⟨_, rfl⟩
    have zl : Z.length = 32 := by rw [hZ]; rfl
    have zlit : (#[.int .u8 0, .int .u8 0, .int .u8 0, .int .u8 0, .int .u8 0, .int .u8 0, .int .u8 0, .int .u8 0, .int .u8 0, .int .u8 0, .int .u8 0, .int .u8 0, .int .u8 0, .int .u8 0, .int .u8 0, .int .u8 0, .int .u8 0, .int .u8 0, .int .u8 0, .int .u8 0, .int .u8 0, .int .u8 0, .int .u8 0, .int .u8 0, .int .u8 0, .int .u8 0, .int .u8 0, .int .u8 0, .int .u8 0, .int .u8 0, .int .u8 0, .int .u8 0] : Array Value) = dV Z := by rw [hZ]; exact zdig
    have ZL := Lib.hid zl
    have ZT := Lib.hid zlit
    have HZ := Lib.hid hZ
    clear zl zlit hZ
    obtain ⟨H, hH⟩ : ∃ H, H = w.heap.size := ⟨_, rfl⟩
    obtain ⟨w0, hw0⟩ : ∃ z, z = w.alloc (.cells (dV Z) 23) := ⟨_, rfl⟩
    have q0 : w0.heap.size = H + 1 := by rw [hw0, hH]; exact World.size_alloc _ _
    have s0 : Below (H) w w0 := by rw [hw0, hH]; exact (Below.refl _ _).alloc (Nat.le_refl _) _
    have t0 : Below (H + 1) w0 w0 := Below.refl _ _
    have bL : Below H w w0 := s0.trans (t0.mono (by omega))
    have g0 : w0.heap[H]? = some (.cells (dV Z) 23 (0, 0)) := by
      have g : w0.heap[H]? = some (.cells (dV Z) 23 (0, 0)) := by rw [hw0, hH]; exact heap_alloc_new _ _
      exact (t0.block _ (by omega)).trans g
    have bW : Below w.heap.size w w0 := by rw [← hH]; exact bL
    have hsz : H < w0.heap.size := by omega
    have HH := Lib.hid hH
    have HW0 := Lib.hid hw0
    have BL := Lib.hid bL
    have BW := Lib.hid bW
    have QL := Lib.hid q0
    have G0 := Lib.hid g0
    clear hH hw0 q0 s0 t0 g0 bL bW
    by_cases h0 : zs = []
    · have hl0 : zs.length = 0 := by rw [h0]; rfl
      have hl1 : ((zs.length : Int) == 0) = true := by rw [beq_iff_eq]; omega
      have hl2 : (zs.length == 0) = true := by rw [beq_iff_eq]; exact hl0
      have hz : rootL 0 (vals zs) = nz := by rw [h0]; rfl
      rw [hz, ← HZ.out]
      clear hz h0 hl0 hr hro
      go_enter Tryd.func132, Tryd.ntmps132
      go_upto_region 1 with fail
      rw [ZT.out, ← HH.out, ← HW0.out]
      go_wp2_with (first | (refine wpl_zero rfl rfl Z HZ.out ?_) | (refine st_row rfl (.tmp 4) (.tmp 12) rfl H Z ZL.out (by rfl) (by rfl) (dV Z) (dV_size ZL.out) _ G0.out ?_))
      try simp only [Exit.inBlock, Exit.then]
      refine bodyPost_ret (v := .agg (dV Z)) (results_cellW rfl _ _ _ ⟨H, 0, none⟩ _ rfl ?_) rfl ⟨rfl, by rw [← HH.out]; exact below_setRowW BL.out (Nat.le_refl _) _⟩
      exact dig_load ZL.out (range_of_row (setRow_heap _ _ _ (dV Z) _ _ G0.out))
    · obtain ⟨x, r, rfl⟩ : ∃ x r, zs = x :: r := by cases zs with | nil => exact absurd rfl h0 | cons x r => exact ⟨x, r, rfl⟩
      obtain ⟨g, o, rfl, hgl, hrg⟩ := hr.ent (vals_len _) (k := 0) (by unfold vals; simp)
      have hx : (vals (x :: r))[0]'(by unfold vals; simp) = x.1 := rfl
      rw [hx, Nat.zero_mul, Nat.add_zero] at hrg
      have hrg2 : w0.rangeAt g o (eL x.1) := range_low hrg BW.out hgl
      have hl1 : (((x :: r).length : Int) == 0) = false := by rw [beq_eq_false_iff_ne, List.length_cons]; omega
      have hl2 : (0 : Int) < ((x :: r).length : Int) := by rw [List.length_cons]; omega
      obtain ⟨k, hk⟩ : ∃ k : Nat, x.1.key = (k : Int) := ⟨x.1.key.toNat, by have := x.2.2.1; omega⟩
      have hk2 : k < 4294967296 := by have := x.2.2.2; omega
      have hz : rootL 0 (vals (x :: r)) = leafD k x.1.val := by
        show leafD x.1.key.toNat x.1.val = _
        rw [hk, Int.toNat_natCast]
      have LC := Leaf_calls k hk2 x.1.val x.2.1 w0 (hro.at_ BW.out)
      rw [← hk] at LC
      obtain ⟨L, hL⟩ : ∃ L, L = leafD k x.1.val := ⟨_, rfl⟩
      have ll : L.length = 32 := by rw [hL]; exact leafD_length _ _
      rw [← hL] at LC hz
      rw [hz]
      obtain ⟨n, hn9⟩ : ∃ n, n = (x :: r).length := ⟨_, rfl⟩
      rw [← hn9] at hl1 hl2 ⊢
      have HLC := Lib.hid LC
      have LL := Lib.hid ll
      have HRG := Lib.hid hrg2
      have X32 := Lib.hid x.2.1
      clear LC hL ll hz hn9 hrg hrg2 hx hgl hr hro hk h0 hn
      obtain ⟨E, hE⟩ : ∃ E, E = x.1 := ⟨_, rfl⟩
      rw [← hE] at HLC HRG X32
      clear hE
      go_enter Tryd.func132, Tryd.ntmps132
      go_upto_region 1 with fail
      rw [ZT.out, ← HH.out, ← HW0.out]
      go_wp2_with (first
        | ((refine ld_entG rfl (.tmp 17) rfl g o (by rfl) E X32.out HRG.out ?_); simp only [Act.put, List.setIfInBounds_toArray, List.set_cons_zero, List.set_cons_succ]))
      refine HLC.out.mono ?_
      rintro e w2 ⟨rfl, hb2⟩
      obtain ⟨w3, hw3⟩ : ∃ z, z = w2.alloc (.cells (dV L) 23) := ⟨_, rfl⟩
      obtain ⟨Y, hY⟩ : ∃ Y, Y = w2.heap.size := ⟨_, rfl⟩
      have b3 : Below w0.heap.size w0 w3 := by rw [hw3]; exact hb2.alloc hb2.size _
      have g3 : w3.heap[Y]? = some (.cells (dV L) 23 (0, 0)) := by rw [hw3, hY]; exact heap_alloc_new _ _
      have gz := (b3.block H hsz).trans G0.out
      have HW3 := Lib.hid hw3
      have HY := Lib.hid hY
      have G3 := Lib.hid g3
      have GZ := Lib.hid gz
      have B3 := Lib.hid (BL.out.trans (b3.mono (by omega)))
      clear hw3 hY b3 g3 gz hb2 HLC
      go_wp2_with (first
        | ((refine st_new rfl (.tmp 5) (.tmp 20) rfl L LL.out (by rfl) _ _ (by rfl) (by rfl) ?_); rw [← HY.out, ← HW3.out])
        | ((refine ld_digG rfl (.tmp 5) rfl (Y) 0 (by rfl) L LL.out (range_of_row G3.out) ?_); simp only [Act.put, List.setIfInBounds_toArray, List.set_cons_zero, List.set_cons_succ])
        | (refine st_row rfl (.tmp 4) (.tmp 22) rfl H L LL.out (by rfl) (by rfl) (dV Z) (dV_size ZL.out) _ GZ.out ?_))
      try simp only [Exit.inBlock, Exit.then]
      refine bodyPost_ret (v := .agg (dV L)) (results_cellW rfl _ _ _ ⟨H, 0, none⟩ _ rfl ?_) rfl ⟨rfl, by rw [← HH.out]; exact below_setRowW B3.out (Nat.le_refl _) _⟩
      exact dig_load LL.out (range_of_row (setRow_heap _ _ _ (dV L) _ _ GZ.out))
  | succ b ih =>
    intro hb32 zs a cap ea hn hcap w hr hro
    obtain ⟨Z, hZ⟩ : ∃ Z, Z = nz := ⟨_, rfl⟩
    have zl : Z.length = 32 := by rw [hZ]; rfl
    have zlit : (#[.int .u8 0, .int .u8 0, .int .u8 0, .int .u8 0, .int .u8 0, .int .u8 0, .int .u8 0, .int .u8 0, .int .u8 0, .int .u8 0, .int .u8 0, .int .u8 0, .int .u8 0, .int .u8 0, .int .u8 0, .int .u8 0, .int .u8 0, .int .u8 0, .int .u8 0, .int .u8 0, .int .u8 0, .int .u8 0, .int .u8 0, .int .u8 0, .int .u8 0, .int .u8 0, .int .u8 0, .int .u8 0, .int .u8 0, .int .u8 0, .int .u8 0, .int .u8 0] : Array Value) = dV Z := by rw [hZ]; exact zdig
    have ZL := Lib.hid zl
    have ZT := Lib.hid zlit
    have HZ := Lib.hid hZ
    clear zl zlit hZ
    obtain ⟨H, hH⟩ : ∃ H, H = w.heap.size := ⟨_, rfl⟩
    obtain ⟨w0, hw0⟩ : ∃ z, z = w.alloc (.cells (dV Z) 23) := ⟨_, rfl⟩
    have q0 : w0.heap.size = H + 1 := by rw [hw0, hH]; exact World.size_alloc _ _
    have s0 : Below (H) w w0 := by rw [hw0, hH]; exact (Below.refl _ _).alloc (Nat.le_refl _) _
    have t0 : Below (H + 1) w0 w0 := Below.refl _ _
    have bL : Below H w w0 := s0.trans (t0.mono (by omega))
    have g0 : w0.heap[H]? = some (.cells (dV Z) 23 (0, 0)) := by
      have g : w0.heap[H]? = some (.cells (dV Z) 23 (0, 0)) := by rw [hw0, hH]; exact heap_alloc_new _ _
      exact (t0.block _ (by omega)).trans g
    have bW : Below w.heap.size w w0 := by rw [← hH]; exact bL
    have hsz : H < w0.heap.size := by omega
    have HH := Lib.hid hH
    have HW0 := Lib.hid hw0
    have BL := Lib.hid bL
    have BW := Lib.hid bW
    have QL := Lib.hid q0
    have G0 := Lib.hid g0
    clear hH hw0 q0 s0 t0 g0 bL bW
    by_cases h0 : zs = []
    · have hl0 : zs.length = 0 := by rw [h0]; rfl
      have hl1 : ((zs.length : Int) == 0) = true := by rw [beq_iff_eq]; omega
      have hl2 : (zs.length == 0) = true := by rw [beq_iff_eq]; exact hl0
      have hz : rootL (b + 1) (vals zs) = nz := by rw [h0]; rfl
      rw [hz, ← HZ.out]
      clear hz h0 hl0 ih hr hro
      go_enter Tryd.func132, Tryd.ntmps132
      go_upto_region 1 with fail
      rw [ZT.out, ← HH.out, ← HW0.out]
      go_wp2_with (first | (refine wpl_zero rfl rfl Z HZ.out ?_) | (refine st_row rfl (.tmp 4) (.tmp 12) rfl H Z ZL.out (by rfl) (by rfl) (dV Z) (dV_size ZL.out) _ G0.out ?_))
      try simp only [Exit.inBlock, Exit.then]
      refine bodyPost_ret (v := .agg (dV Z)) (results_cellW rfl _ _ _ ⟨H, 0, none⟩ _ rfl ?_) rfl ⟨rfl, by rw [← HH.out]; exact below_setRowW BL.out (Nat.le_refl _) _⟩
      exact dig_load ZL.out (range_of_row (setRow_heap _ _ _ (dV Z) _ _ G0.out))
    · have hl0 : zs.length ≠ 0 := by intro h; exact h0 (List.length_eq_zero_iff.1 h)
      have hl1 : ((zs.length : Int) == 0) = false := by rw [beq_eq_false_iff_ne]; omega
      have hb1 : (((b : Int) + 1) == 0) = false := by rw [beq_eq_false_iff_ne]; omega
      have hb2 : IntKind.i64.wrap ((b : Int) + 1 - 1) = (b : Int) := by rw [show (b : Int) + 1 - 1 = (b : Int) by omega]; exact IntWalk.i64_in _ (by omega)
      have hz : rootL (b + 1) (vals zs) = nodeD (rootL b (vals (zs.takeWhile fun x => !(bitP b x)))) (rootL b (vals (zs.dropWhile fun x => !(bitP b x)))) := by
        obtain ⟨v1, v2⟩ := vals_take zs (fun e => !(bitE b e))
        rw [show (fun x : EnS => !(bitP b x)) = (fun x : EnS => !(bitE b x.1)) from rfl, v1, v2]
        cases hv : vals zs with
        | nil => cases zs with
          | nil => exact absurd rfl h0
          | cons x r => unfold vals at hv; simp at hv
        | cons e r => exact rootL_succ b e r
      have HC := Halves_calls b (by omega) zs a cap ea hn hcap w0 (hr.below BW.out)
      have hrl : ∀ l, (rootL b (vals l)).length = 32 := fun l => by
        cases b <;> (cases hv : vals l <;> first | rfl | exact leafD_length _ _ | exact nodeD_length _ _)
      have ro0 : RoundsAt w0 := hro.at_ BW.out
      obtain ⟨L1, hL1⟩ : ∃ L, L = zs.takeWhile fun x => !(bitP b x) := ⟨_, rfl⟩
      obtain ⟨L2, hL2⟩ : ∃ L, L = zs.dropWhile fun x => !(bitP b x) := ⟨_, rfl⟩
      unfold HalvesRet at HC
      rw [← hL1, ← hL2] at HC hz
      have hRL1 := hrl L1
      have hRL2 := hrl L2
      obtain ⟨R1, hR1⟩ : ∃ R, R = rootL b (vals L1) := ⟨_, rfl⟩
      obtain ⟨R2, hR2⟩ : ∃ R, R = rootL b (vals L2) := ⟨_, rfl⟩
      have ih1 := ih (by omega) L1
      have ih2 := ih (by omega) L2
      rw [← hR1] at hz hRL1 ih1
      rw [← hR2] at hz hRL2 ih2
      obtain ⟨N, hN⟩ : ∃ N, N = nodeD R1 R2 := ⟨_, rfl⟩
      have nl : N.length = 32 := by rw [hN]; exact nodeD_length _ _
      rw [hz, ← hN]
      rw [Int.natCast_add, show ((1 : Nat) : Int) = 1 from rfl]
      have HHC := Lib.hid HC
      have RW := Lib.hid (hr.below BW.out)
      have RO := Lib.hid ro0
      have N1 := Lib.hid hRL1
      have N2 := Lib.hid hRL2
      have HNN := Lib.hid hN
      have NL := Lib.hid nl
      have IH1 := Lib.hid ih1
      have IH2 := Lib.hid ih2
      clear HC hz ro0 hRL1 hRL2 hN nl ih1 ih2 ih hr hro hrl hL1 hL2 hR1 hR2 h0 hl0
      go_enter Tryd.func132, Tryd.ntmps132
      go_upto_region 1 with fail
      rw [ZT.out, ← HH.out, ← HW0.out]
      go_wp2_with fail
      refine HHC.out.mono ?_
      rintro e w2 ⟨a1, c1, a2, c2, rfl, hn1, hc1, hn2, hc2, f1, f2, hb2⟩
      have r1 := f1 _ (RW.out.below hb2)
      have r2 := f2 _ (RW.out.below hb2)
      have C1 := Lib.hid (IH1.out a1 c1 ea hn1 hc1 w2 r1 (RO.out.at_ hb2))
      have R2 := Lib.hid r2
      have RO2 := Lib.hid (RO.out.at_ hb2)
      have B2 := Lib.hid hb2
      have HN2 := Lib.hid (And.intro hn2 hc2)
      clear r1 r2 f1 f2 hb2 HHC hn1 hc1 hn2 hc2
      go_wp2_with fail
      refine C1.out.mono ?_
      rintro e w3 ⟨rfl, hb3⟩
      have C2 := Lib.hid (IH2.out a2 c2 ea HN2.out.1 HN2.out.2 w3 (R2.out.below hb3) (RO2.out.at_ hb3))
      have RO3 := Lib.hid (RO2.out.at_ hb3)
      have B3 := Lib.hid (B2.out.trans (hb3.mono B2.out.size))
      clear hb3 C1
      go_wp2_with fail
      refine C2.out.mono ?_
      rintro e w4 ⟨rfl, hb4⟩
      have C3 := Lib.hid (Node_calls _ _ N1.out N2.out w4 (RO3.out.at_ hb4))
      have B4 := Lib.hid (B3.out.trans (hb4.mono B3.out.size))
      clear hb4 C2
      go_wp2_with fail
      refine C3.out.mono ?_
      rintro e w5 ⟨rfl, hb5⟩
      have b5 := B4.out.trans (hb5.mono B4.out.size)
      have G5 := Lib.hid ((b5.block H hsz).trans G0.out)
      have B5 := Lib.hid (BL.out.trans (b5.mono (by omega)))
      clear hb5 C3 b5
      rw [← HNN.out]
      go_wp2_with (refine st_row rfl (.tmp 4) (.tmp 38) rfl H N NL.out (by rfl) (by rfl) (dV Z) (dV_size ZL.out) _ G5.out ?_)
      try simp only [Exit.inBlock, Exit.then]
      refine bodyPost_ret (v := .agg (dV N)) (results_cellW rfl _ _ _ ⟨H, 0, none⟩ _ rfl ?_) rfl ⟨rfl, by rw [← HH.out]; exact below_setRowW B5.out (Nat.le_refl _) _⟩
      exact dig_load NL.out (range_of_row (setRow_heap _ _ _ (dV N) _ _ G5.out))
end Go.Proofs.YtkioddmhjbaleaaDoor

namespace Go.Proofs.YtkioddmhjbaleaaDoor
open Go.RowKit
set_option linter.unusedVariables false
set_option linter.unusedSimpArgs false
open Go.Shelf Go.Lib Go.Sort
theorem apart_ok (es : List En) (h : mapF es = 0) : es.length ≤ 64 ∧ (∀ e ∈ es, KeyOk e.key) ∧ Apart es := by
  unfold mapF at h
  split at h
  · cases h
  · obtain ⟨h1, h2, _⟩ := scan_ok es [] h
    exact ⟨by omega, h1, h2⟩
theorem mem_leafF (es : List En) (ha : Apart es) (d : List EnS) (hu : Up (vals d)) (hm : ∀ x, x ∈ vals d ↔ x ∈ es) : leafF (vals d) = leafF es := by
  funext k
  exact leafF_same _ _ hu.apart ha hm k
theorem inP_all (d : List EnS) : InP 32 0 (vals d) := by
  intro e he
  obtain ⟨_, h1, h2⟩ := vals_ok d e he
  exact ⟨by simpa using h1, by simpa using h2⟩
theorem rootL_all (es : List En) (ha : Apart es) (d : List EnS) (hu : Up (vals d)) (hm : ∀ x, x ∈ vals d ↔ x ∈ es) : rootL 32 (vals d) = rootD es := by
  rw [rootL_eq 32 0 _ hu (inP_all d), mem_leafF es ha d hu hm]
  rfl
/-- leafed: a fact that the laws ask -/
theorem mapF_one : mapF [⟨1, nz⟩] = 0 := by decide
set_option maxRecDepth 20000 in
theorem Path_bad (es : List En) (hw : ∀ e ∈ es, EnW e) (a : Option Addr) (cap ea : Nat) (hc1 : es.length ≤ cap) (hc2 : cap ≤ 9223372036854775807) (k : Int) (w : World) (hr : Rd w a ea (cellsE es)) (f : Int) (hf : mapF es = f) (hf0 : f ≠ 0) :
    Calls Tryd.prog 103 #[.slice a es.length cap, .int .i64 k] w fun e w' => e = .returned (.tuple #[.slice none 0 0, .iface 41 (.int .i64 f)]) ∧ Below w.heap.size w w' := by
  have SC := Sorted_calls es hw a cap ea hc1 hc2 w hr
  have SC2 : Calls Tryd.prog 129 #[.slice a es.length cap] w fun e w' => e = .returned (.tuple #[.slice none 0 0, .iface 41 (.int .i64 f)]) ∧ Below w.heap.size w w' := SC.mono fun e w' h => ⟨by rw [← hf]; exact h.1 (by rw [hf]; exact hf0), h.2.2⟩
  have HSC := Lib.hid SC2
  clear SC SC2 hr hw hf hf0 hc1
  go_enter Tryd.func103, Tryd.ntmps103
  go_wp2_with fail
  refine HSC.out.mono ?_
  rintro e w2 ⟨rfl, hb2⟩
  clear HSC
  go_wp2_with fail
  go_ret2
  exact ⟨rfl, hb2⟩
set_option maxRecDepth 20000 in
theorem Path_key (es : List En) (hw : ∀ e ∈ es, EnW e) (a : Option Addr) (cap ea : Nat) (hc1 : es.length ≤ cap) (hc2 : cap ≤ 9223372036854775807) (k : Int) (hk : ¬ KeyOk k) (w : World) (hr : Rd w a ea (cellsE es)) (hf : mapF es = 0) :
    Calls Tryd.prog 103 #[.slice a es.length cap, .int .i64 k] w fun e w' => e = .returned (.tuple #[.slice none 0 0, .iface 41 (.int .i64 2)]) ∧ Below w.heap.size w w' := by
  have SC := Sorted_calls es hw a cap ea hc1 hc2 w hr
  have SC2 : Calls Tryd.prog 129 #[.slice a es.length cap] w fun e w' => (∃ a c, e = .returned (.tuple #[.slice a es.length c, .nilIface])) ∧ Below w.heap.size w w' := SC.mono fun e w' h => ⟨by
    obtain ⟨d, a2, c2, e2, h1, _⟩ := h.2.1 hf
    exact ⟨a2, c2, h1⟩, h.2.2⟩
  have HSC := Lib.hid SC2
  have HK := Lib.hid hk
  clear SC SC2 hr hw hf hc1 hk
  go_enter Tryd.func103, Tryd.ntmps103
  go_wp2_with fail
  refine HSC.out.mono ?_
  rintro e w2 ⟨⟨a2, c2, rfl⟩, hb2⟩
  have KK := Key_calls k w2
  rw [decide_eq_false HK.out] at KK
  have HKK := Lib.hid KK
  clear HSC KK
  go_wp2_with (go_at_call 130; refine HKK.out.mono ?_; rintro e w' ⟨rfl, rfl⟩)
  go_ret2
  exact ⟨rfl, hb2⟩
/-- a row of digests, set from one on -/
def sibs (f : Nat → List UInt8) (k m : Nat) : List (List UInt8) := (List.range 32).map fun j => if m ≤ j then sib f k j else nz
theorem sibs_length (f : Nat → List UInt8) (k m : Nat) : (sibs f k m).length = 32 := by simp [sibs]
theorem sibs_dig (f : Nat → List UInt8) (hf : ∀ q, (f q).length = 32) (k m : Nat) : ∀ d ∈ sibs f k m, d.length = 32 := by
  intro d hd
  obtain ⟨j, _, rfl⟩ := List.mem_map.1 hd
  split
  · exact sib_length f hf k j
  · rfl
theorem sibs_zero (f : Nat → List UInt8) (k : Nat) : sibs f k 0 = pathD f k := by unfold sibs pathD; simp
theorem sibs_all (f : Nat → List UInt8) (k : Nat) : sibs f k 32 = List.replicate 32 nz := by
  refine List.eq_replicate_iff.2 ⟨sibs_length f k 32, fun d hd => ?_⟩
  obtain ⟨j, hj, rfl⟩ := List.mem_map.1 hd
  rw [if_neg (by have := List.mem_range.1 hj; omega)]
theorem sibs_set (f : Nat → List UInt8) (k m : Nat) (hm : m < 32) : (sibs f k (m + 1)).set m (sib f k m) = sibs f k m := by
  unfold sibs
  apply List.ext_getElem
  · simp
  · intro i h1 h2
    have hi : i < 32 := by simpa using h2
    rw [List.getElem_set]
    by_cases e : m = i
    · subst e; simp
    · rw [if_neg e]
      simp only [List.getElem_map, List.getElem_range]
      by_cases g : m ≤ i
      · rw [if_pos g, if_pos (by omega)]
      · rw [if_neg g, if_neg (by omega)]
theorem flat_nz : (List.replicate 32 nz).flatten.map vB = List.replicate 1024 (.int .u8 0) := by
  unfold nz; rw [List.flatten_replicate_replicate, List.map_replicate]; rfl
/-- the half that is gone on with, and the other -/
theorem half_step (f : Nat → List UInt8) (k m : Nat) (zs : List EnS) (hu : Up (vals zs)) (hp : InP (m + 1) (k / 2 ^ (m + 1)) (vals zs)) (hl : ∀ q, k / 2 ^ (m + 1) * 2 ^ (m + 1) ≤ q → q < (k / 2 ^ (m + 1) + 1) * 2 ^ (m + 1) → leafF (vals zs) q = f q)
    (lo hi : List EnS) (hlo : lo = zs.takeWhile fun x => !(bitP m x)) (hhi : hi = zs.dropWhile fun x => !(bitP m x)) (own oth : List EnS) (ho : if k / 2 ^ m % 2 = 1 then own = hi ∧ oth = lo else own = lo ∧ oth = hi) :
    Up (vals own) ∧ InP m (k / 2 ^ m) (vals own) ∧ (∀ q, k / 2 ^ m * 2 ^ m ≤ q → q < (k / 2 ^ m + 1) * 2 ^ m → leafF (vals own) q = f q) ∧ rootL m (vals oth) = sib f k m := by
  obtain ⟨v1, v2⟩ := vals_take zs (fun e => !(bitE m e))
  have hv1 : vals lo = (vals zs).takeWhile (fun e => !(bitE m e)) := by rw [hlo]; exact v1
  have hv2 : vals hi = (vals zs).dropWhile (fun e => !(bitE m e)) := by rw [hhi]; exact v2
  obtain ⟨h1, h2⟩ := up_halves (vals zs) m _ hu hp
  rw [h1] at hv1
  rw [h2] at hv2
  obtain ⟨p, hpp⟩ : ∃ p, p = k / 2 ^ (m + 1) := ⟨_, rfl⟩
  have hx : k / 2 ^ m / 2 = p := by rw [hpp, Nat.pow_succ, Nat.div_div_eq_div_mul]
  rw [← hpp] at hp hl hv1 hv2
  obtain ⟨x, hxx⟩ : ∃ x, x = k / 2 ^ m := ⟨_, rfl⟩
  rw [← hxx] at ho hx ⊢
  have e0 : 2 ^ (m + 1) = 2 * 2 ^ m := by rw [Nat.pow_succ]; omega
  have e1 : p * 2 ^ (m + 1) = 2 * p * 2 ^ m := by rw [e0, ← Nat.mul_assoc, Nat.mul_comm p 2]
  have e2 : (p + 1) * 2 ^ (m + 1) = (2 * p + 1 + 1) * 2 ^ m := by rw [e0, ← Nat.mul_assoc]; congr 1; omega
  have e3 : (2 * p + 1) * 2 ^ m = 2 * p * 2 ^ m + 2 ^ m := by rw [Nat.add_mul]; omega
  have e4 : (2 * p + 1 + 1) * 2 ^ m = (2 * p + 1) * 2 ^ m + 2 ^ m := by rw [Nat.add_mul (2 * p + 1)]; omega
  rw [e1, e2] at hl
  -- what each half is
  have L1 : Up (vals lo) ∧ InP m (2 * p) (vals lo) ∧ ∀ q, 2 * p * 2 ^ m ≤ q → q < (2 * p + 1) * 2 ^ m → leafF (vals lo) q = f q := by
    refine ⟨by rw [hv1]; exact hu.filter _, fun e he => ?_, fun q g1 g2 => ?_⟩
    · rw [hv1] at he
      obtain ⟨hx1, hx2⟩ := List.mem_filter.1 he
      have := hp e hx1
      rw [e1] at this
      exact ⟨this.1, of_decide_eq_true hx2⟩
    · rw [← hl q g1 (by omega), hv1]
      refine leafF_filter _ _ _ fun x _ hx => ?_
      rw [hx]
      exact decide_eq_true (by exact_mod_cast g2)
  have L2 : Up (vals hi) ∧ InP m (2 * p + 1) (vals hi) ∧ ∀ q, (2 * p + 1) * 2 ^ m ≤ q → q < (2 * p + 1 + 1) * 2 ^ m → leafF (vals hi) q = f q := by
    refine ⟨by rw [hv2]; exact hu.filter _, fun e he => ?_, fun q g1 g2 => ?_⟩
    · rw [hv2] at he
      obtain ⟨hx1, hx2⟩ := List.mem_filter.1 he
      have := hp e hx1
      rw [e2] at this
      have hx3 : ¬ e.key < (((2 * p + 1) * 2 ^ m : Nat) : Int) := by simpa using hx2
      exact ⟨by omega, this.2⟩
    · rw [← hl q (by omega) g2, hv2]
      refine leafF_filter _ _ _ fun x _ hx => ?_
      rw [hx, decide_eq_false (by intro h; have h : q < (2 * p + 1) * 2 ^ m := by exact_mod_cast h
                                  omega)]
      rfl
  have S1 : rootL m (vals lo) = treeD m f (2 * p) := by
    rw [rootL_eq m (2 * p) _ L1.1 L1.2.1]; exact treeD_congr _ _ _ _ L1.2.2
  have S2 : rootL m (vals hi) = treeD m f (2 * p + 1) := by
    rw [rootL_eq m (2 * p + 1) _ L2.1 L2.2.1]; exact treeD_congr _ _ _ _ L2.2.2
  unfold sib
  rw [← hxx]
  by_cases hb : x % 2 = 1
  · rw [if_pos hb] at ho ⊢
    obtain ⟨rfl, rfl⟩ := ho
    rw [show x = 2 * p + 1 by omega, show 2 * p + 1 - 1 = 2 * p by omega]
    exact ⟨L2.1, L2.2.1, L2.2.2, S1⟩
  · rw [if_neg hb] at ho ⊢
    obtain ⟨rfl, rfl⟩ := ho
    rw [show x = 2 * p by omega]
    exact ⟨L1.1, L1.2.1, L1.2.2, S2⟩
end Go.Proofs.YtkioddmhjbaleaaDoor
/- Walk: trie.Path tells all that stands beside a key's way up. -/
namespace Go.Proofs.YtkioddmhjbaleaaDoor
open Go.RowKit
set_option linter.unusedVariables false
set_option linter.unusedSimpArgs false
open Go.Shelf Go.Lib Go.Sort
theorem info_digz : (Tryd.prog.info? 23).map (fun i => (i.zero, i.size, i.bytes)) = some (some (.agg (dV nz)), 32, 32) := by rw [← zdig]; exact info_dig
theorem made_dig : (madeCells (Value.agg (dV nz)).cells (32 * 32)).toList = List.replicate 1024 (.int .u8 0) := by
  refine List.eq_replicate_iff.2 ⟨by rw [Array.length_toList, size_madeCells], fun v hv => ?_⟩
  unfold madeCells at hv
  rw [Array.toList_map] at hv
  obtain ⟨i, _, rfl⟩ := List.mem_map.1 hv
  have hs : (Value.agg (dV nz)).cells.size = 32 := dV_size rfl
  rw [hs]
  have hi : i % 32 < (dV nz).size := by rw [dV_size rfl]; exact Nat.mod_lt _ (by omega)
  show (dV nz)[i % 32]! = _
  rw [getElem!_pos (dV nz) (i % 32) hi]
  have e : dV nz = (List.replicate 32 (Value.int .u8 0)).toArray := by unfold dV nz; rw [List.map_replicate]; rfl
  simp only [e, List.getElem_toArray, List.getElem_replicate]
set_option maxRecDepth 20000 in
set_option maxHeartbeats 8000000 in
theorem Path_ok (es : List En) (hw : ∀ e ∈ es, EnW e) (a : Option Addr) (cap ea : Nat) (hc1 : es.length ≤ cap) (hc2 : cap ≤ 9223372036854775807) (k : Nat) (hk : k < 4294967296) (w : World) (hr : Rd w a ea (cellsE es)) (hf : mapF es = 0) (hro : RoundsAt w) :
    Calls Tryd.prog 103 #[.slice a es.length cap, .int .i64 (k : Int)] w fun e w' => ∃ a' c', e = .returned (.tuple #[.slice a' 32 c', .nilIface]) ∧ w'.ownsRow w.heap.size 23 32 (.slice a' 32 c') 32 ((pathD (leafF es) k).flatten.map vB) ∧ Below w.heap.size w w' := by
  obtain ⟨f, hff⟩ : ∃ f, f = leafF es := ⟨_, rfl⟩
  have hf32 : ∀ q, (f q).length = 32 := fun q => by rw [hff]; exact leafF_length es q
  have SC := Sorted_calls es hw a cap ea hc1 hc2 w hr
  have SC2 : Calls Tryd.prog 129 #[.slice a es.length cap] w fun e w' => (∃ (d : List EnS) (a : Option Addr) (cap e' : Nat), e = .returned (.tuple #[.slice a d.length cap, .nilIface]) ∧ d.length ≤ cap ∧ cap ≤ 9223372036854775807 ∧ Up (vals d) ∧ leafF (vals d) = f ∧ Rd w' a e' (cellsE (vals d))) ∧ Below w.heap.size w w' := SC.mono fun e w' h => ⟨by
    obtain ⟨d, a2, c2, e2, h1, h2, h3, h4, h5, h6, h7⟩ := h.2.1 hf
    exact ⟨d, a2, c2, e2, by rw [h1, h2], by omega, h4, h5, by rw [hff]; exact mem_leafF es (apart_ok es hf).2.2 d h5 h6, h7⟩, h.2.2⟩
  obtain ⟨i0, hi0, hz0, hs0, hb0⟩ := info_parts info_digz
  rw [← hff]
  have HSC := Lib.hid SC2
  have RO := Lib.hid hro
  clear SC SC2 hr hw hf hc1 hro hff
  go_enter Tryd.func103, Tryd.ntmps103
  go_wp2_with fail
  refine HSC.out.mono ?_
  rintro e w2 ⟨⟨d, a2, c2, e2, rfl, hd1, hd2, hd3, hd4, hd5⟩, hb2⟩
  obtain ⟨P, hP⟩ : ∃ P, P = w2.heap.size := ⟨_, rfl⟩
  have KK := Key_calls (k : Int) w2
  rw [decide_eq_true (show KeyOk (k : Int) from ⟨by omega, by omega⟩)] at KK
  have HKK := Lib.hid KK
  have HP := Lib.hid hP
  have B2 := Lib.hid hb2
  have RO2 := Lib.hid (RO.out.at_ hb2)
  have D1 := Lib.hid hd1
  have D3 := Lib.hid hd3
  have D4 := Lib.hid hd4
  have D5 := Lib.hid hd5
  clear KK hb2 HSC hd1 hd3 hd4 hd5 RO hP
  go_upto_region 7 with (first
    | (go_at_call 130; refine HKK.out.mono ?_; rintro e w' ⟨rfl, rfl⟩)
    | (at_make; refine wpList_make_full _ rfl _ _ 31 rfl w2.heap.size 23 i0 (.agg (dV nz)) 32 Tryd.underlying31 hi0 hz0 hs0 _ _ _ _ 32 rfl rfl rfl rfl (by rw [hb0]; omega) (by simp only [maxLen]; omega) (Nat.le_refl _) ?_; intro w3 hown3 hgrow3))
  rw [made_dig, ← flat_nz, ← sibs_all f k, ← HP.out] at hown3
  have b3 : Below P w2 w3 := by rw [HP.out]; exact (Below.refl _ w2).grown hgrow3 (Nat.le_refl _) (fun k hk => by cases hk)
  rw [← HP.out]
  have HO3 := Lib.hid hown3
  have B3 := Lib.hid b3
  clear hown3 hgrow3 b3 HKK
  go_wp2_with fail
  go_loopw [6, 9] (fun ov i wr => ∃ (m : Nat) (zs : List EnS) (az : Option Addr) (cz ez : Nat), m ≤ 32 ∧ i = .int .i64 ((m : Int) - 1) ∧ ov = .slice az zs.length cz ∧ zs.length ≤ cz ∧ cz ≤ 9223372036854775807 ∧ Up (vals zs) ∧ InP m (k / 2 ^ m) (vals zs) ∧ (∀ q, k / 2 ^ m * 2 ^ m ≤ q → q < (k / 2 ^ m + 1) * 2 ^ m → leafF (vals zs) q = f q) ∧ Rd w2 az ez (cellsE (vals zs)) ∧ wr.ownsRow P 23 32 (.slice (some ⟨P, 0, none⟩) 32 32) 32 ((sibs f k m).flatten.map vB) ∧ Below P w2 wr) (fun _ i _ => (intOf i + 1).toNat)
  case atStart =>
    have hk0 : k / 2 ^ 32 = 0 := Nat.div_eq_of_lt hk
    exact ⟨32, d, a2, c2, e2, Nat.le_refl _, rfl, rfl, D1.out, hd2, D3.out, by rw [hk0]; exact inP_all d, fun q _ _ => by rw [D4.out], D5.out, HO3.out, B3.out⟩
  case round =>
    clear HO3 B3 D1 D3 D4 D5 hd2
    obtain ⟨m, zs, az, cz, ez, hm, rfl, rfl, hz1, hz2, hup, hin, hlf, hrz, hown, hbl⟩ := hrel
    obtain ⟨wB, rfl⟩ : ∃ z, z = wr := ⟨_, rfl⟩
    by_cases hm0 : 1 ≤ m
    · obtain ⟨q, rfl⟩ : ∃ q, m = q + 1 := ⟨m - 1, by omega⟩
      have hqi : ((q + 1 : Nat) : Int) - 1 = (q : Int) := by omega
      rw [hqi]
      have hq : q < 32 := by omega
      have q0 : (0 : Int) ≤ (q : Int) := by omega
      have q1 : (q : Int) < 32 := by omega
      have e4 : IntKind.i64.wrap ((q : Int) - 1) = (q : Int) - 1 := IntWalk.i64_in _ (by omega)
      obtain ⟨x, hx⟩ : ∃ x, x = k / 2 ^ q := ⟨_, rfl⟩
      have e5 : (k : Int) / 2 ^ q = (x : Int) := by rw [hx]; exact shr_bit k q
      have hxl : x < 9223372036854775808 := by rw [hx]; exact Nat.lt_of_le_of_lt (Nat.div_le_self _ _) (by omega)
      have hbl2 : Below w2.heap.size w2 wB := by rw [← HP.out]; exact hbl
      have HC := Halves_calls q hq zs az cz ez hz1 hz2 wB (hrz.below hbl2)
      obtain ⟨L1, hL1⟩ : ∃ L, L = zs.takeWhile fun x => !(bitP q x) := ⟨_, rfl⟩
      obtain ⟨L2, hL2⟩ : ∃ L, L = zs.dropWhile fun x => !(bitP q x) := ⟨_, rfl⟩
      unfold HalvesRet at HC
      rw [← hL1, ← hL2] at HC
      have HHC := Lib.hid HC
      have HX := Lib.hid hx
      have HXL := Lib.hid hxl
      have HL1 := Lib.hid hL1
      have HL2 := Lib.hid hL2
      have HUP := Lib.hid hup
      have HIN := Lib.hid hin
      have HLF := Lib.hid hlf
      have HRZ := Lib.hid hrz
      have HO := Lib.hid hown
      have HBL := Lib.hid hbl2
      clear HC hx hxl hL1 hL2 hup hin hlf hrz hown hbl hbl2 hqi hm hm0
      go_wp2_with fail
      refine HHC.out.mono ?_
      rintro e w3 ⟨a1, c1, a3, c3, rfl, hn1, hc1, hn2, hc2, f1, f2, hb3⟩
      have HOWN := Lib.hid (own_below HO.out hb3)
      have B23 := Lib.hid (HBL.out.trans (hb3.mono HBL.out.size))
      clear HHC HO HBL hb3
      by_cases hb1 : x % 2 = 1
      · have hb6 : (bits BinOp.and IntKind.i64 (x : Int) 1 == 1) = true := by rw [and_one x HXL.out, hb1]; rfl
        have HS := half_step f k q zs HUP.out HIN.out HLF.out L1 L2 HL1.out HL2.out L2 L1 (by rw [← HX.out, if_pos hb1]; exact ⟨rfl, rfl⟩)
        rw [← HX.out] at HS
        obtain ⟨s1, s2, s3, s4⟩ := HS
        have S1 := Lib.hid s1
        have S2 := Lib.hid s2
        have S3 := Lib.hid s3
        have rn := f2 _ HRZ.out
        have ro := f1 _ HRZ.out
        have RC := Root_calls q (by omega) L1 a1 c1 ez hn1 hc1 w3 (ro.below B23.out) (RO2.out.at_ B23.out)
        rw [s4] at RC
        have RN := Lib.hid rn
        have HRC := Lib.hid RC
        have HN := Lib.hid (And.intro hn2 hc2)
        clear s1 s2 s3 s4 rn ro RC hb1 hn1 hc1 hn2 hc2 f1 f2
        go_wp2_with fail
        refine HRC.out.mono ?_
        rintro e w4 ⟨rfl, hb4⟩
        have hown4 := own_below HOWN.out hb4
        have B4 := Lib.hid (B23.out.trans (hb4.mono B23.out.size))
        clear hb4 HRC HOWN
        obtain ⟨R, hR⟩ : ∃ R, R = sib f k q := ⟨_, rfl⟩
        have rl : R.length = 32 := by rw [hR]; exact sib_length f hf32 k q
        rw [← hR]
        have hset : (sibs f k (q + 1)).set q R = sibs f k q := by rw [hR]; exact sibs_set f k q hq
        have thr := own_there hown4 (sibs_dig f hf32 k (q + 1)) q (by rw [sibs_length]; exact hq)
        have hown5 := own_digset hown4 (sibs_dig f hf32 k (q + 1)) q (by rw [sibs_length]; exact hq) R rl
        rw [hset] at hown5
        have HO5 := Lib.hid hown5
        have B5 := Lib.hid (below_setCells (R.map vB) (q * 32) (show Below P w2 w4 by rw [HP.out]; exact B4.out) (Nat.le_refl P))
        have RL := Lib.hid rl
        clear hset hown4 hown5 rl hR
        go_wp2_with (refine st_dig rfl (.tmp 48) (.tmp 47) rfl P (q * 32) R RL.out (by rfl) (by rfl) thr ?_; clear thr; generalize w4.setCells P (q * 32) (R.map vB) = w5 at *)
        go_roundw
        case rel => exact ⟨q, L2, a3, c3, ez, by omega, rfl, rfl, HN.out.1, HN.out.2, S1.out, by rw [← HX.out]; exact S2.out, by rw [← HX.out]; exact S3.out, RN.out, HO5.out, B5.out⟩
        case measure => simp only [intOf]; omega
      · have hb6 : (bits BinOp.and IntKind.i64 (x : Int) 1 == 1) = false := by rw [and_one x HXL.out, show x % 2 = 0 by omega]; rfl
        have HS := half_step f k q zs HUP.out HIN.out HLF.out L1 L2 HL1.out HL2.out L1 L2 (by rw [← HX.out, if_neg hb1]; exact ⟨rfl, rfl⟩)
        rw [← HX.out] at HS
        obtain ⟨s1, s2, s3, s4⟩ := HS
        have S1 := Lib.hid s1
        have S2 := Lib.hid s2
        have S3 := Lib.hid s3
        have rn := f1 _ HRZ.out
        have ro := f2 _ HRZ.out
        have RC := Root_calls q (by omega) L2 a3 c3 ez hn2 hc2 w3 (ro.below B23.out) (RO2.out.at_ B23.out)
        rw [s4] at RC
        have RN := Lib.hid rn
        have HRC := Lib.hid RC
        have HN := Lib.hid (And.intro hn1 hc1)
        clear s1 s2 s3 s4 rn ro RC hb1 hn1 hc1 hn2 hc2 f1 f2
        go_wp2_with fail
        refine HRC.out.mono ?_
        rintro e w4 ⟨rfl, hb4⟩
        have hown4 := own_below HOWN.out hb4
        have B4 := Lib.hid (B23.out.trans (hb4.mono B23.out.size))
        clear hb4 HRC HOWN
        obtain ⟨R, hR⟩ : ∃ R, R = sib f k q := ⟨_, rfl⟩
        have rl : R.length = 32 := by rw [hR]; exact sib_length f hf32 k q
        rw [← hR]
        have hset : (sibs f k (q + 1)).set q R = sibs f k q := by rw [hR]; exact sibs_set f k q hq
        have thr := own_there hown4 (sibs_dig f hf32 k (q + 1)) q (by rw [sibs_length]; exact hq)
        have hown5 := own_digset hown4 (sibs_dig f hf32 k (q + 1)) q (by rw [sibs_length]; exact hq) R rl
        rw [hset] at hown5
        have HO5 := Lib.hid hown5
        have B5 := Lib.hid (below_setCells (R.map vB) (q * 32) (show Below P w2 w4 by rw [HP.out]; exact B4.out) (Nat.le_refl P))
        have RL := Lib.hid rl
        clear hset hown4 hown5 rl hR
        go_wp2_with (refine st_dig rfl (.tmp 48) (.tmp 47) rfl P (q * 32) R RL.out (by rfl) (by rfl) thr ?_; clear thr; generalize w4.setCells P (q * 32) (R.map vB) = w5 at *)
        go_roundw
        case rel => exact ⟨q, L1, a1, c1, ez, by omega, rfl, rfl, HN.out.1, HN.out.2, S1.out, by rw [← HX.out]; exact S2.out, by rw [← HX.out]; exact S3.out, RN.out, HO5.out, B5.out⟩
        case measure => simp only [intOf]; omega
    · obtain rfl : m = 0 := by omega
      have hown0 := hown
      rw [sibs_zero] at hown0
      have hneg : ((0 : Nat) : Int) - 1 = -1 := rfl
      rw [hneg]
      have HO := Lib.hid (own_base hown0 (show w.heap.size ≤ P by rw [HP.out]; exact B2.out.size))
      have BF := Lib.hid (B2.out.trans (hbl.mono (by rw [HP.out]; exact B2.out.size)))
      clear hown hown0 hbl hrz hlf hin hup
      go_wp2_with fail
      go_ret2
      exact ⟨_, 32, rfl, HO.out, BF.out⟩
end Go.Proofs.YtkioddmhjbaleaaDoor

