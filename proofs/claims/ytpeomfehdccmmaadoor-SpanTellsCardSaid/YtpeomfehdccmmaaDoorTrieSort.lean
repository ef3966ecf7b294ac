/- Walks: the comparison of entries, slices.Clone of entries, slices.SortFunc of entries with keys. -/
import Derived.Test.YtpeomfehdccmmaaDoorEntMem
import Derived.Test.YtpeomfehdccmmaaDoorTrieLay
namespace Go.Proofs.YtpeomfehdccmmaaDoor
open Go.RowKit
set_option linter.unusedVariables false
set_option linter.unusedSimpArgs false
open Go.Shelf Go.Lib Go.Sort
def EnOk (e : En) : Prop := e.val.length = 32 ∧ 0 ≤ e.key ∧ e.key < 4294967296
abbrev EnS := {e : En // EnOk e}
instance : Inhabited EnS := ⟨⟨⟨0, nz⟩, rfl, by decide, by decide⟩⟩
def encS (e : EnS) : List Value := eL e.1
def vals (d : List EnS) : List En := d.map (·.1)
theorem encS_length (e : EnS) : (encS e).length = 33 := eL_length e.2.1
theorem vals_ok (d : List EnS) : ∀ e ∈ vals d, EnOk e := by
  intro e he
  obtain ⟨x, _, rfl⟩ := List.mem_map.1 he
  exact x.2
theorem vals_len (d : List EnS) : ∀ e ∈ vals d, e.val.length = 32 := fun e he => (vals_ok d e he).1
def cfE (x y : EnS) : Int := x.1.key - y.1.key
theorem ltE (x y : EnS) : ltOf cfE x y = decide (x.1.key < y.1.key) := by
  unfold ltOf cfE
  rw [decide_eq_decide]
  omega
theorem swoE : SWO (ltOf cfE) where
  irrefl x := by rw [ltE]; simp
  trans x y z h1 h2 := by rw [ltE, decide_eq_true_iff] at *; omega
  ntrans x y z h1 h2 := by rw [ltE, decide_eq_false_iff_not] at *; omega
theorem cmpE (x y : EnS) (W : World) : Calls Tryd.prog 75 #[.agg (encS x).toArray, .agg (encS y).toArray] W fun e w' => e = .returned (.int .i64 (cfE x y)) ∧ ∃ q os', w' = grow (W.drewN q) os' := by
  obtain ⟨X, hX⟩ : ∃ X, X = (encS x).toArray := ⟨_, rfl⟩
  obtain ⟨Y, hY⟩ : ∃ Y, Y = (encS y).toArray := ⟨_, rfl⟩
  have hw : IntKind.i64.wrap (x.1.key - y.1.key) = x.1.key - y.1.key := IntWalk.i64_in _ (by have := x.2; have := y.2; unfold EnOk at *; omega)
  have c0 : ((W.alloc (.cells X 35)).alloc (.cells Y 35)).cell? ⟨W.heap.size, 0, none⟩ = some (.int .i64 x.1.key) := by
    refine ((((Below.refl (W.heap.size + 1) (W.alloc (.cells X 35))).alloc (by rw [World.size_alloc]; omega) _).cell (p := ⟨W.heap.size, 0, none⟩) (by show W.heap.size < _; omega))).trans ?_
    rw [cell_of_row _ _ _ _ _ _ (heap_alloc_new W _), hX]; rfl
  have c1 : ((W.alloc (.cells X 35)).alloc (.cells Y 35)).cell? ⟨W.heap.size + 1, 0, none⟩ = some (.int .i64 y.1.key) := by
    have h := heap_alloc_new (W.alloc (.cells X 35)) (.cells Y 35)
    rw [World.size_alloc] at h
    rw [cell_of_row _ _ _ _ _ _ h, hY]; rfl
  rw [← hX, ← hY]
  unfold cfE
  obtain ⟨kx, hkx⟩ : ∃ k, k = x.1.key := ⟨_, rfl⟩
  obtain ⟨ky, hky⟩ : ∃ k, k = y.1.key := ⟨_, rfl⟩
  rw [← hkx] at hw c0 ⊢
  rw [← hky] at hw c1 ⊢
  clear hX hY hkx hky
  go_enter Tryd.func75, Tryd.ntmps75
  go_wp2_with fail
  go_ret
  exact ⟨rfl, 0, _, by rw [alloc_eq_grow, alloc_eq_grow, grow_grow]; rfl⟩
theorem cmpsE (blk off size : Nat) (w : World) : CmpLays Tryd.prog 75 #[] encS 33 cfE blk off size w := fun _ _ _ _ x y => cmpE x y _
/-- entries of the call's own come back -/
def RetE (w : World) (es : List En) (e : Ending) (w' : World) : Prop :=
  ∃ a cap, e = .returned (.slice a es.length cap) ∧ w'.ownsRow w.heap.size 35 33 (.slice a es.length cap) es.length (cellsE es) ∧ Below w.heap.size w w'
set_option maxRecDepth 20000 in
theorem CloneE_calls (es : List En) (hw : ∀ e ∈ es, e.val.length = 32) (a : Option Addr) (ca ea : Nat) (w : World) (ha : Rd w a ea (cellsE es)) (hx : es.length ≤ 1000000000) :
    Calls Tryd.prog 62 #[.slice a es.length ca] w (RetE w es) := by
  have hnil := fun (w : World) (a : Option Addr) (n c : Nat) => Lib.run_eql_slice_nil (P := Tryd.prog) w 40 35 a n c 0 0 Tryd.underlying40
  cases a with
  | none =>
    have h0 : es = [] := by
      rcases ha with h | ⟨b, o, cur, fr, h, _⟩
      · cases es with
        | nil => rfl
        | cons e es => rw [cellsE_cons] at h; simp [eL] at h
      · cases h
    subst h0
    go_enter Tryd.func62, Tryd.ntmps62
    go_wp2
    go_ret
    exact ⟨none, 0, rfl, World.ownsRow_nil _ _ _ _, Below.refl _ _⟩
  | some ad =>
    by_cases h0 : es = []
    · subst h0
      go_enter Tryd.func62, Tryd.ntmps62
      go_wp2
      go_ret
      exact ⟨_, 0, rfl, World.ownsRow_made w #[] 0 (Nat.le_refl _) (Nat.zero_le _) rfl, (Below.refl _ w).alloc (Nat.le_refl _) _⟩
    · have hl : 0 < es.length := by cases es with | nil => exact absurd rfl h0 | cons _ _ => simp
      have hcl := cellsE_length es hw
      obtain ⟨b, o, he, _, hc⟩ := ha.cell (k := 0) (by omega)
      simp only [Option.some.injEq] at he
      subst he
      have H0 := Lib.hid h0
      have HA := Lib.hid ha
      have HCL := Lib.hid hcl
      clear h0 ha hc hcl hw
      go_enter Tryd.func62, Tryd.ntmps62
      go_wp2_with (at_builtin; refine appRd 40 35 (.agg (eV 0 nz)) 33 40 Tryd.underlying40 info_entz (eV_size 0 nz rfl) (by omega) (by omega) rfl _ _ rfl w.heap.size _ 0 [] rfl (World.ownsRow_made w #[] 0 (Nat.le_refl _) (Nat.zero_le _) rfl) ⟨b, o, none⟩ es.length _ (cellsE es) rfl ea (HA.out.alloc _) HCL.out (cellsE_one_all es) hl (by omega) (by simp) _ rfl ?_; intro g cap w1 hown hgrow _ _)
      have hb1 : Below w.heap.size w w1 := ((Below.refl _ w).alloc (Nat.le_refl _) _).grown hgrow (by simp) (fun k hk => by have : w.heap.size = k := Option.some.inj hk; omega)
      clear hgrow
      go_wp2
      go_ret
      exact ⟨_, cap, rfl, by simpa using hown, hb1⟩
/-! the row that is sorted -/
theorem flat_cells (d : List EnS) (t : Nat) (h : t < d.length * 33) : (cellsE (vals d))[t]? = some ((flatK encS 33 d.toArray)[t]!) := by
  have hk : t / 33 < d.length := by omega
  rw [get_flatK _ _ _ t (by simpa using h)]
  have e := cellsE_get (vals d) (vals_len d) (t / 33) (t % 33) (by unfold vals; rw [List.length_map]; exact hk) (Nat.mod_lt _ (by omega))
  rw [show t / 33 * 33 + t % 33 = t by omega] at e
  rw [e]
  have e2 : (vals d)[t / 33]'(by unfold vals; rw [List.length_map]; exact hk) = (d[t / 33]).1 := by unfold vals; rw [List.getElem_map]
  have e3 : d.toArray[t / 33]! = d[t / 33] := by rw [List.getElem!_toArray, getElem!_pos d (t / 33) hk]
  rw [e2, e3]
  unfold encS
  have hj : t % 33 < (eL (d[t / 33]).1).length := by rw [eL_length (d[t / 33]).2.1]; exact Nat.mod_lt _ (by omega)
  rw [List.getElem?_eq_getElem hj, getElem!_pos (eL (d[t / 33]).1) (t % 33) hj]
theorem holds_of_own {w : World} {base g n cap : Nat} (d : List EnS) (h : w.ownsRow base 35 33 (.slice (some ⟨g, 0, none⟩) n cap) n (cellsE (vals d))) : HoldsK encS 33 w g 0 d.toArray := by
  intro j hj
  rw [size_flatK] at hj
  have hj2 : j < d.length * 33 := by simpa using hj
  have e := flat_cells d j hj2
  have hl : j < (cellsE (vals d)).length := by rw [cellsE_length _ (vals_len d)]; unfold vals; rw [List.length_map]; exact hj2
  have := own_cellS h (k := j) hl
  rw [List.getElem?_eq_getElem hl] at e
  rw [Nat.zero_add, this.1, Option.some.inj e]
  exact ⟨rfl, this.2⟩
theorem rd_of_holds {w : World} {g : Nat} (d : List EnS) (h : HoldsK encS 33 w g 0 d.toArray) : ∃ e, Rd w (some ⟨g, 0, none⟩) e (cellsE (vals d)) := by
  refine Rd.of_cellq fun i hi => ?_
  have hi2 : i < d.length * 33 := by
    have := cellsE_length _ (vals_len d)
    unfold vals at this hi
    rw [List.length_map] at this
    omega
  have := (h i (by rw [size_flatK]; simpa using hi2)).1
  have e := flat_cells d i hi2
  rw [List.getElem?_eq_getElem hi] at e
  rw [this, Option.some.inj e]
  rfl
theorem below_sortW {B g n : Nat} {w w0 : World} {d : Array EnS} {os : Array Obj} (h : Below B w0 w) (hg : B ≤ g) (hgl : g < w.heap.size) : Below B w0 (sortWorldK encS 33 w g 0 n d os) := by
  refine h.trans ⟨rfl, rfl, rfl, ?_, fun k hk => ?_⟩
  · show w.heap.size ≤ _
    unfold sortWorldK grow putRowK putRow mapBlock Sort.ahead
    simp
  · show ((mapBlock (Sort.ahead w n) g _).heap ++ os)[k]? = w.heap[k]?
    have hkl : k < w.heap.size := by omega
    rw [Array.getElem?_append_left (by unfold mapBlock Sort.ahead; simpa using hkl)]
    unfold mapBlock Sort.ahead
    simp only [Array.getElem?_modify]
    rw [if_neg (by omega)]
end Go.Proofs.YtpeomfehdccmmaaDoor
