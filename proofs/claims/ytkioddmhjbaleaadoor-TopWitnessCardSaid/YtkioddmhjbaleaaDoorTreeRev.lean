/- slices.Reverse at digests and at bools, laid by the shelf's own form. -/
import Derived.Test.YtkioddmhjbaleaaDoorTreeNode
import Derived.Shelf.SlicesQ.Reverse
import Derived.Shelf.SlicesE.Reverse
namespace Go.Proofs.YtkioddmhjbaleaaDoor
open Go.RowKit
set_option linter.unusedVariables false
set_option linter.unusedSimpArgs false
open Go.Shelf Go.Lib Go.Sort
def Lay.revD_ren : Go.Shelf.Ren := ⟨fun | 35 => 80 | n => n, fun | 22 => 31 | 23 => 23 | 3 => 3 | 4 => 4 | 0 => 0 | n => n, fun | n => n⟩
theorem Lay.revD : Go.Proofs.SlLaysE0.n35 Tryd.prog Lay.revD_ren := {
  mixed := by kernel_rfl,
  f35 := ⟨Tryd.f80.name, by decide, Tryd.func80.trans (congrArg some (by kernel_rfl))⟩,
  t0 := Tryd.underlying0,
  a0 := Tryd.isAgg0,
  z0 := Tryd.sizeOf0,
  v0 := Tryd.zeroValue0,
  t3 := Tryd.underlying3,
  a3 := Tryd.isAgg3,
  z3 := Tryd.sizeOf3,
  v3 := Tryd.zeroValue3,
  t4 := Tryd.underlying4,
  a4 := Tryd.isAgg4,
  z4 := Tryd.sizeOf4,
  v4 := Tryd.zeroValue4,
  t22 := Tryd.underlying31,
  a22 := Tryd.isAgg31,
  z22 := Tryd.sizeOf31,
  v22 := Tryd.zeroValue31 }
def Lay.revB_ren : Go.Shelf.Ren := ⟨fun | 35 => 86 | n => n, fun | 22 => 132 | 23 => 4 | 3 => 3 | 4 => 4 | 0 => 0 | n => n, fun | n => n⟩
theorem Lay.revB : Go.Proofs.SlLaysE.n35 Tryd.prog Lay.revB_ren := {
  mixed := by kernel_rfl,
  f35 := ⟨Tryd.f86.name, by decide, Tryd.func86.trans (congrArg some (by kernel_rfl))⟩,
  t0 := Tryd.underlying0,
  a0 := Tryd.isAgg0,
  z0 := Tryd.sizeOf0,
  v0 := Tryd.zeroValue0,
  t3 := Tryd.underlying3,
  a3 := Tryd.isAgg3,
  z3 := Tryd.sizeOf3,
  v3 := Tryd.zeroValue3,
  t4 := Tryd.underlying4,
  a4 := Tryd.isAgg4,
  z4 := Tryd.sizeOf4,
  v4 := Tryd.zeroValue4,
  t22 := Tryd.underlying132,
  a22 := Tryd.isAgg132,
  z22 := Tryd.sizeOf132,
  v22 := Tryd.zeroValue132,
  a23 := Tryd.isAgg4,
  z23 := Tryd.sizeOf4 }

theorem Rd.of_cellt {w : World} {b o : Nat} {vs : List Value} (h : ∀ i, (hi : i < vs.length) → w.cell? ⟨b, o + i, none⟩ = some vs[i]) : ∃ e, Rd w (some ⟨b, o, none⟩) e vs := by
  cases vs with
  | nil => exact ⟨0, .inl rfl⟩
  | cons v vs =>
    have h0 := h 0 (by simp)
    unfold World.cell? at h0
    simp only at h0
    rcases hb : w.heap[b]? with _ | ob
    · rw [hb] at h0; cases h0
    · rcases ob with ⟨cur, e, fr⟩ | _ | _ | _ | _ | _ | _ <;> try (rw [hb] at h0; cases h0; done)
      refine ⟨e, .inr ⟨b, o, cur, fr, rfl, hb, fun i hi => ?_⟩⟩
      rw [← cell_of_row w b (o + i) cur e fr hb]
      exact h i hi
abbrev DgS := {d : List UInt8 // d.length = 32}
instance : Inhabited DgS := ⟨⟨nz, rfl⟩⟩
def encDg (d : DgS) : List Value := d.1.map vB
def dvals (d : List DgS) : List (List UInt8) := d.map (·.1)
theorem encDg_length (d : DgS) : (encDg d).length = 32 := by unfold encDg; rw [List.length_map]; exact d.2
theorem encDg_one (d : DgS) : ∀ v ∈ encDg d, v.oneCell' = true := one_bytes d.1
theorem dvals_len (d : List DgS) : ∀ x ∈ dvals d, x.length = 32 := by
  intro x hx
  obtain ⟨y, _, rfl⟩ := List.mem_map.1 hx
  exact y.2
def liftDg (ds : List (List UInt8)) (h : ∀ d ∈ ds, d.length = 32) : List DgS := ds.attach.map fun x => ⟨x.1, h x.1 x.2⟩
theorem dvals_lift (ds : List (List UInt8)) (h : ∀ d ∈ ds, d.length = 32) : dvals (liftDg ds h) = ds := by
  unfold dvals liftDg
  rw [List.map_map]
  exact List.attach_map_subtype_val ds
theorem dvals_get (d : List DgS) (i : Nat) (h : i < (dvals d).length) (h2 : i < d.length) : (dvals d)[i] = (d[i]).1 := by
  simp [dvals]
theorem flat_dgs (d : List DgS) (t : Nat) (h : t < d.length * 32) : ((dvals d).flatten.map vB)[t]? = some ((flatK encDg 32 d.toArray)[t]!) := by
  have hk : t / 32 < d.length := by omega
  rw [get_flatK _ _ _ t (by simpa using h)]
  have hkv : t / 32 < (dvals d).length := by unfold dvals; rw [List.length_map]; exact hk
  have e2 : (dvals d)[t / 32] = (d[t / 32]).1 := dvals_get d _ hkv hk
  have hj : t % 32 < ((dvals d)[t / 32]).length := by rw [e2, (d[t / 32]).2]; exact Nat.mod_lt _ (by omega)
  have e := (flat_get (dvals d) (dvals_len d)).2 (t / 32) (t % 32) hkv hj
  rw [show 32 * (t / 32) + t % 32 = t by omega] at e
  rw [List.getElem?_map, e]
  have e3 : d.toArray[t / 32]! = d[t / 32] := by rw [List.getElem!_toArray, getElem!_pos d (t / 32) hk]
  rw [e3]
  have hj2 : t % 32 < (encDg d[t / 32]).length := by rw [encDg_length]; exact Nat.mod_lt _ (by omega)
  rw [getElem!_pos (encDg d[t / 32]) (t % 32) hj2]
  have e4 : (encDg d[t / 32])[t % 32] = vB ((d[t / 32]).1[t % 32]'(by rw [← e2]; exact hj)) := by simp [encDg]
  rw [e4]
  show some (vB _) = some (vB _)
  congr 2
  simp only [e2]
theorem dholds_of_own {w : World} {base g n cap : Nat} (d : List DgS) (h : w.ownsRow base 23 32 (.slice (some ⟨g, 0, none⟩) n cap) n ((dvals d).flatten.map vB)) : HoldsK encDg 32 w g 0 d.toArray := by
  intro j hj
  rw [size_flatK] at hj
  have hj2 : j < d.length * 32 := by simpa using hj
  have e := flat_dgs d j hj2
  have hl : j < ((dvals d).flatten.map vB).length := (List.getElem?_eq_some_iff.1 e).1
  have := own_cellS h (k := j) hl
  rw [List.getElem?_eq_getElem hl] at e
  rw [Nat.zero_add, this.1, Option.some.inj e]
  exact ⟨rfl, this.2⟩
theorem drd_of_holds {w : World} {g : Nat} (d : List DgS) (h : HoldsK encDg 32 w g 0 d.toArray) : ∃ e, Rd w (some ⟨g, 0, none⟩) e ((dvals d).flatten.map vB) := by
  refine Rd.of_cellt fun i hi => ?_
  have hi2 : i < d.length * 32 := by
    have := (flat_get (dvals d) (dvals_len d)).1
    unfold dvals at this hi
    rw [List.length_map] at this hi
    omega
  have := (h i (by rw [size_flatK]; simpa using hi2)).1
  have e := flat_dgs d i hi2
  rw [List.getElem?_eq_getElem hi] at e
  rw [this, Option.some.inj e]
  rfl
theorem below_put {α : Type} [Inhabited α] (enc : α → Value) {B g o n : Nat} {w w0 : World} {d : Array α} (h : Below B w0 w) (hg : B ≤ g) : Below B w0 (putRow enc (Sort.ahead w n) g o d) := by
  refine h.trans ⟨rfl, rfl, rfl, ?_, fun k hk => ?_⟩
  · rw [size_putRow]; exact Nat.le_refl _
  · show (mapBlock (Sort.ahead w n) g _).heap[k]? = w.heap[k]?
    unfold mapBlock Sort.ahead
    simp only [Array.getElem?_modify]
    rw [if_neg (by omega)]
/-- a block that is read is of its own type -/
theorem Rd.typed {w : World} {b o : Nat} {e t : TypeId} {vs : List Value} {c : Array Value} {fr : Nat × Nat} (h : Rd w (some ⟨b, o, none⟩) e vs) (hb : w.heap[b]? = some (.cells c t fr)) : Rd w (some ⟨b, o, none⟩) t vs := by
  rcases h with h | ⟨b1, o1, cur, fr1, h1, hc, hi⟩
  · exact .inl h
  · simp only [Option.some.injEq, Addr.mk.injEq, and_true] at h1
    obtain ⟨rfl, rfl⟩ := h1
    rw [hb] at hc
    simp only [Option.some.injEq, Obj.cells.injEq] at hc
    obtain ⟨rfl, rfl, rfl⟩ := hc
    exact .inr ⟨b, o, c, fr, rfl, hb, hi⟩
theorem put_type {w : World} {n g : Nat} {cur : Array Value} {t : TypeId} {fr : Nat × Nat} (h : w.heap[g]? = some (.cells cur t fr)) (f : Array Value → Array Value) : ∃ c, (mapBlock (Sort.ahead w n) g f).heap[g]? = some (.cells c t fr) := by
  refine ⟨f cur, ?_⟩
  unfold mapBlock Sort.ahead
  simp only [Array.getElem?_modify, if_true, h, Option.map_some]
  rfl
/-- digests turned round in their own row -/
theorem RevD_calls (ds : List (List UInt8)) (hd : ∀ d ∈ ds, d.length = 32) (base : Nat) (a : Option Addr) (cap : Nat) (hn : ds.length ≤ 9223372036854775807) (w : World) (hown : w.ownsRow base 23 32 (.slice a ds.length cap) ds.length (ds.flatten.map vB)) :
    Calls Tryd.prog 80 #[.slice a ds.length cap] w fun e w' => e = .returned (.tuple #[]) ∧ Rd w' a 23 (ds.reverse.flatten.map vB) ∧ Below base w w' := by
  by_cases h0 : ds = []
  · subst h0
    refine (AnyQ.slices_Reverse_empty Lay.revD a cap w).mono ?_
    rintro e w' ⟨he, rfl⟩
    exact ⟨he, .inl rfl, Below.refl _ _⟩
  · have hl0 : 0 < ds.length := List.length_pos_iff.2 h0
    obtain ⟨g, hg, hgb⟩ := own_some hown hl0
    subst hg
    have hll : (liftDg ds hd).length = ds.length := by unfold liftDg; simp
    have hH := dholds_of_own (liftDg ds hd) (n := ds.length) (by rw [dvals_lift]; exact hown)
    have h := AnyQ.slices_Reverse Lay.revD 32 Tryd.isAgg23 Tryd.sizeOf23 encDg encDg_length encDg_one g 0 cap (liftDg ds hd).toArray w hH (by simpa [hll] using hn)
    have hsz : (liftDg ds hd).toArray.size = ds.length := by rw [List.size_toArray]; exact hll
    rw [hsz] at h
    refine h.mono ?_
    rintro e w' ⟨he, n, rfl⟩
    have hH2 : HoldsK encDg 32 (putRowK encDg 32 (Sort.ahead w n) g 0 (liftDg ds hd).toArray.reverse) g 0 (liftDg ds hd).reverse.toArray := by
      rw [← List.reverse_toArray]
      exact holdsK_putRowK encDg 32 _ g 0 _ _ (holdsK_ahead encDg 32 w n g 0 _ hH) (by simp)
    obtain ⟨e', hr⟩ := drd_of_holds _ hH2
    obtain ⟨cur, t0, fr, hgh, rfl⟩ := own_block hown g rfl
    obtain ⟨cs, hty⟩ := put_type (n := n) hgh (putCells id 0 (flatK encDg 32 (liftDg ds hd).toArray.reverse))
    refine ⟨he, ?_, below_put id (Below.refl _ _) hgb⟩
    have : dvals (liftDg ds hd).reverse = ds.reverse := by unfold dvals; rw [List.map_reverse]; exact congrArg List.reverse (dvals_lift ds hd)
    rw [this] at hr
    exact hr.typed hty
def vBo (b : Bool) : Value := .bool b
theorem bholds_of_own {w : World} {base g n cap : Nat} (d : List Bool) (h : w.ownsRow base 4 1 (.slice (some ⟨g, 0, none⟩) n cap) n (d.map vBo)) : Holds vBo w g 0 d.toArray := by
  intro j hj
  have hj2 : j < d.length := by simpa using hj
  have := own_cell h (k := j) (by simpa using hj2)
  rw [Nat.zero_add, this.1, List.getElem!_toArray, getElem!_pos d j hj2]
  exact ⟨by rw [List.getElem_map], this.2⟩
theorem RevB_calls (bs : List Bool) (base : Nat) (a : Option Addr) (cap : Nat) (hn : bs.length ≤ 9223372036854775807) (w : World) (hown : w.ownsRow base 4 1 (.slice a bs.length cap) bs.length (bs.map vBo)) :
    Calls Tryd.prog 86 #[.slice a bs.length cap] w fun e w' => e = .returned (.tuple #[]) ∧ (∃ e', Rd w' a e' (bs.reverse.map vBo)) ∧ Below base w w' := by
  by_cases h0 : bs = []
  · subst h0
    refine (AnyE.slices_Reverse_empty Lay.revB a cap w).mono ?_
    rintro e w' ⟨he, rfl⟩
    exact ⟨he, ⟨0, .inl rfl⟩, Below.refl _ _⟩
  · have hl0 : 0 < bs.length := List.length_pos_iff.2 h0
    obtain ⟨g, hg, hgb⟩ := own_some hown hl0
    subst hg
    have hH := bholds_of_own bs (n := bs.length) hown
    refine (AnyE.slices_Reverse Lay.revB vBo (fun _ => rfl) g 0 cap bs w hH hn).mono ?_
    rintro e w' ⟨he, n, rfl⟩
    have hH2 : Holds vBo (putRow vBo (Sort.ahead w n) g 0 bs.reverse.toArray) g 0 bs.reverse.toArray := holds_putRow vBo _ g 0 bs.toArray _ (fun j hj => hH j hj) (by simp)
    refine ⟨he, ?_, below_put vBo (Below.refl _ _) hgb⟩
    refine Rd.of_cellt fun i hi => ?_
    have hi2 : i < bs.reverse.length := by simpa using hi
    have := (hH2 i (by simpa using hi2)).1
    rw [this, List.getElem!_toArray, getElem!_pos bs.reverse i hi2, List.getElem_map]
end Go.Proofs.YtkioddmhjbaleaaDoor
