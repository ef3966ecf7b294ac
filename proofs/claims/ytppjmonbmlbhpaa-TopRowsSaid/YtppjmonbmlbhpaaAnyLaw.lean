/- REED AND SOLOMON: of the rows that some were spread to any as many as those tell those again. No walk here. -/
import Derived.Test.YtppjmonbmlbhpaaGather
namespace Go.Proofs.Ytppjmonbmlbhpaa

/-- the rows at some places, as shares -/
def picked (all : List (List UInt8)) (which : List Nat) : List Sh := which.map fun j => ⟨UInt8.ofNat j, all.getD j []⟩
theorem picked_length (all : List (List UInt8)) (which : List Nat) : (picked all which).length = which.length := by simp [picked]
theorem picked_at (all : List (List UInt8)) (which : List Nat) : (picked all which).map (·.at_) = which.map UInt8.ofNat := by simp [picked, Function.comp_def]
theorem picked_data (all : List (List UInt8)) (which : List Nat) : (picked all which).map (·.data) = which.map fun j => all.getD j [] := by simp [picked, Function.comp_def]

theorem gather_spread (rows : List (List UInt8)) (n L : Nat) (which : List Nat) (h0 : 0 < rows.length) (hk : rows.length ≤ n) (hn : n ≤ 256) (hall : ∀ r ∈ rows, r.length = L) (hw : which.length = rows.length) (hnd : which.Nodup) (hlt : ∀ j ∈ which, j < n) :
    gatherOf (picked (spreadOf rows n) which) rows.length = rows := by
  have hh : (rows.headD []).length = L := by cases rows with | nil => simp at h0 | cons r rs => exact hall r (List.mem_cons_self ..)
  have hpl : (picked (spreadOf rows n) which).length = rows.length := by rw [picked_length, hw]
  have hsl := spreadOf_length rows n hk
  have hrl := spread_row_length rows n L hh hall
  unfold gatherOf
  rw [List.take_of_length_le (by omega), picked_at, picked_data]
  refine list_ext_getD (d := []) (by simp) fun i hi => ?_
  have hi' : i < rows.length := by simpa using hi
  rw [List.getD_eq_getElem?_getD, List.getElem?_map, List.getElem?_range hi']
  simp only [Option.map_some, Option.getD_some]
  have hhd : ((which.map fun j => (spreadOf rows n).getD j []).headD []).length = L := by
    cases which with
    | nil => simp at hw; omega
    | cons j js => exact hrl _ (getD_mem (by rw [hsl]; exact hlt j (List.mem_cons_self ..)))
  have hri := hall _ (getD_mem (d := []) hi')
  refine list_ext_getD (d := 0) (by rw [thrus_length, hhd, hri]) fun q hq => ?_
  rw [thrus_length, hhd] at hq
  rw [thrus_getD _ _ _ _ (by rw [hhd]; exact hq)]
  have hcol : col (which.map fun j => (spreadOf rows n).getD j []) q = (which.map UInt8.ofNat).map (Gf.thro (ats rows.length) (col rows q)) := by
    unfold col
    rw [List.map_map, List.map_map]
    refine List.map_congr_left fun j hj => ?_
    exact spread_val rows n (by omega) j q (hlt j hj) (by omega)
  have hp : Gf.IsPoly rows.length (Gf.thro (ats rows.length) (col rows q)) := by
    have := Gf.thro_poly (ats rows.length) (col rows q)
    rwa [ats_length] at this
  rw [hcol, Gf.lagrange hp _ (map_nodup hnd (fun j hj => by have := hlt j hj; omega)) (by simp; omega)]
  have h2 := spread_val rows n (by omega) i q (by omega) (by omega)
  rw [← h2]
  congr 1
  unfold spreadOf
  rw [List.getD_eq_getElem?_getD, List.getElem?_append_left hi', List.getD_eq_getElem?_getD]

theorem picked_fault (rows : List (List UInt8)) (n L : Nat) (which : List Nat) (h0 : 0 < rows.length) (hk : rows.length ≤ n) (hn : n ≤ 20) (hall : ∀ r ∈ rows, r.length = L) (hnd : which.Nodup) (hlt : ∀ j ∈ which, j < n) :
    ∀ m, m ≤ which.length → sharesF 0 19 (picked (spreadOf rows n) which) m = 0 := by
  have hh : (rows.headD []).length = L := by cases rows with | nil => simp at h0 | cons r rs => exact hall r (List.mem_cons_self ..)
  have hsl := spreadOf_length rows n hk
  have hrl := spread_row_length rows n L hh hall
  intro m
  induction m with
  | zero => intro _; rfl
  | succ m ih =>
    intro hm
    simp only [sharesF]
    rw [if_neg (by simpa using ih (by omega))]
    have hg : (picked (spreadOf rows n) which).getD m default = ⟨UInt8.ofNat which[m], (spreadOf rows n).getD which[m] []⟩ := by
      unfold picked
      rw [List.getD_eq_getElem?_getD, List.getElem?_map, List.getElem?_eq_getElem (by omega)]; rfl
    have hl := hlt which[m] (List.getElem_mem _)
    unfold faultAt
    rw [hg]
    have hb : (UInt8.ofNat which[m]).toNat = which[m] := by simp; omega
    rw [if_neg (by simp only [hb]; omega), if_neg, if_neg]
    · simp only [ne_eq, Decidable.not_not]
      rw [hrl _ (getD_mem (by omega))]
      have : (picked (spreadOf rows n) which).headD default = ⟨UInt8.ofNat which[0], (spreadOf rows n).getD which[0] []⟩ := by
        cases which with
        | nil => simp at hm
        | cons j js => rfl
      rw [this, hrl _ (getD_mem (by have := hlt which[0] (List.getElem_mem _); omega))]
    · simp only [List.map_take, picked_at]
      rw [← List.map_take]
      intro hmem
      obtain ⟨j, hj, he⟩ := List.mem_map.1 hmem
      obtain ⟨i, hi, rfl⟩ := List.mem_iff_getElem.1 hj
      have hi' : i < m := by simp at hi; omega
      rw [List.getElem_take] at he
      have h1 := hlt which[i] (List.getElem_mem _)
      have := ofNat_inj (by omega) (by omega) he
      have := (List.getElem_inj hnd).1 this
      omega
end Go.Proofs.Ytppjmonbmlbhpaa
