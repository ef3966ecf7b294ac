/- Walk: span.fits. -/
import Derived.Test.YtpeomfehdccmmaaDoorSpanLeaf
import Derived.Test.YtpeomfehdccmmaaDoorTreeFold
import Derived.Deep.RegionHeld3
namespace Go.Proofs.YtpeomfehdccmmaaDoor
open Go.RowKit
set_option linter.unusedVariables false
set_option linter.unusedSimpArgs false

/-- paths, each in a row of its own -/
def PathsAt (w : World) (pss : List (List (List UInt8))) (vs : List Value) : Prop := vs.length = pss.length ∧ ∀ i, (h : i < pss.length) → (∀ d ∈ pss[i], d.length = 32) ∧ ∃ a c e, vs[i]? = some (.slice a pss[i].length c) ∧ Rd w a e (pss[i].flatten.map vB)
theorem PathsAt.below {w w' : World} {pss : List (List (List UInt8))} {vs : List Value} (h : PathsAt w pss vs) (hb : Below w.heap.size w w') : PathsAt w' pss vs :=
  ⟨h.1, fun i hi => ⟨(h.2 i hi).1, by
    obtain ⟨a, c, e, h1, h2⟩ := (h.2 i hi).2
    exact ⟨a, c, e, h1, h2.below hb⟩⟩⟩
theorem region_joinE {P : Program} {id : Nat} {ops : Array Oper} {b : Bool} {a : Act} {w : World} {Q : Exit → Act → World → Prop} {S : Nat → World → Prop} {A : Nat → Act} (h : (Code.region id ops b).wp P (fun e a' w' => ∃ Y, e = .normal ∧ a' = A Y ∧ S Y w') a w) (hQ : ∀ Y w', S Y w' → Q .normal (A Y) w') : (Code.region id ops b).wp P Q a w :=
  Code.wp_mono (fun e a' w' ⟨Y, h1, h2, h3⟩ => by rw [h1, h2]; exact hQ Y w' h3) h
theorem rng_cells {w : World} {B : Nat} {x y z : Value} {t : TypeId} {fr : Nat × Nat} (h : w.heap[B]? = some (.cells #[x, y, z] t fr)) : w.cell? ⟨B, 0, none⟩ = some x ∧ w.cell? ⟨B, 1, none⟩ = some y ∧ w.cell? ⟨B, 2, none⟩ = some z :=
  ⟨by rw [cell_of_row _ _ _ _ _ _ h]; rfl, by rw [cell_of_row _ _ _ _ _ _ h]; rfl, by rw [cell_of_row _ _ _ _ _ _ h]; rfl⟩
theorem cell_keep {w w' : World} {b j : Nat} {v : Value} (hb : Below w.heap.size w w') (h : w.cell? ⟨b, j, none⟩ = some v) (hl : b < w.heap.size) : w'.cell? ⟨b, j, none⟩ = some v :=
  (hb.cell (p := ⟨b, j, none⟩) hl).trans h
theorem range_keep {w w' : World} {b o : Nat} {vs : List Value} (hb : Below w.heap.size w w') (h : w.rangeAt b o vs) (hl : b < w.heap.size) : w'.rangeAt b o vs :=
  fun j v hj => (hb.cell (p := ⟨b, o + j, none⟩) hl).trans (h j v hj)
theorem wpAnyH_done2 {P : Program} {ops : Array Oper} {md : Region.Mode} {S : World → Prop} {listed : Array Bool} {a : Act} {w : World} {A : Nat → Act} {T : Nat → World → Prop} (hr : Region.ready md ops listed = []) (Y : Nat) (hA : a = A Y) (hT : T Y w) (fuel : Nat) : wpAnyH P md ops (fun e a' w' => ∃ Y, e = .normal ∧ a' = A Y ∧ T Y w') S fuel listed a w :=
  wpAnyH_done hr ⟨Y, rfl, hA, hT⟩ fuel
theorem Fold_three (n : Nat) (hn : n ≤ 256) (fr : Int) (k : Nat) (h0 : 0 ≤ fr) (h1 : fr < (n : Int)) (h2 : fr + (k : Int) ≤ (n : Int)) (D : List UInt8) (hD : D.length = 32) (ps : List (List UInt8)) (hpd : ∀ d ∈ ps, d.length = 32) (xa : Option Addr) (xc xe : Nat) (wN : World) (hx : Rd wN xa xe (ps.flatten.map vB)) (ho : RoundsAt wN) :
    ∃ (D2 : List UInt8) (er : Value), D2.length = 32 ∧ (∀ w', Below wN.heap.size wN w' → Calls Tryd.prog 82 #[.agg (dV D), .int .i64 ((fr.toNat + k : Nat) : Int), .int .i64 (n : Int), .slice xa ps.length xc] w' fun e w'' => e = .returned (.tuple #[.agg (dV D2), er]) ∧ Below w'.heap.size w' w'') ∧
      ((er = .nilIface ∧ fr + (k : Int) < (n : Int) ∧ ps.length = tlong (fr.toNat + k) n ∧ D2 = tfold D (fr.toNat + k) n ps) ∨ (∃ f, er = .iface 25 (.int .i64 f) ∧ ¬ (fr + (k : Int) < (n : Int) ∧ ps.length = tlong (fr.toNat + k) n))) := by
  by_cases hq : fr + (k : Int) < (n : Int)
  · by_cases hp : ps.length = tlong (fr.toNat + k) n
    · exact ⟨_, .nilIface, tfold_length _ _ _ _ hD, fun w' hb => TFold_calls D hD (fr.toNat + k) n (by omega) hn (by omega) ps hpd hp xa xc xe w' (hx.below hb) (ho.at_ hb), .inl ⟨rfl, hq, hp, rfl⟩⟩
    · exact ⟨nz, _, rfl, fun w' hb => TFold_len D (fr.toNat + k) n (by omega) hn (by omega) xa ps.length xc hp w', .inr ⟨3, rfl, fun h => hp h.2⟩⟩
  · exact ⟨nz, _, rfl, fun w' hb => TFold_range D _ _ (by omega) (by omega) (by omega) xa ps.length xc w', .inr ⟨2, rfl, fun h => hq h.1⟩⟩
end Go.Proofs.YtpeomfehdccmmaaDoor
