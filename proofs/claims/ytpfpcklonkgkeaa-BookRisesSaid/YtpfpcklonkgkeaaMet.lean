/- Walk: oathbooklaw2.met; joins of books without a fault. -/
import Derived.Test.YtpfpcklonkgkeaaMeet
namespace Go.Proofs.Ytpfpcklonkgkeaa
open Go.RowKit
set_option linter.unusedVariables false
set_option linter.unusedSimpArgs false
theorem merge_all (p : Ct → Prop) (hp : ∀ a b, p a → p b → p (bothC a b)) : ∀ (n : Nat) (a b : List Ct), a.length + b.length ≤ n → (∀ c ∈ a, p c) → (∀ c ∈ b, p c) → ∀ c ∈ mergeC a b, p c := by
  intro n
  induction n with
  | zero =>
    intro a b h ha hb
    obtain rfl : a = [] := List.length_eq_zero_iff.1 (by omega)
    rw [merge_nil_left]
    exact hb
  | succ n ih =>
    intro a b h ha hb
    cases a with
    | nil => rw [merge_nil_left]; exact hb
    | cons x ar =>
      cases b with
      | nil => rw [merge_nil]; exact ha
      | cons y br =>
        simp only [List.length_cons] at h
        intro c hc
        rcases name_tri x y with g | g | g
        · rw [merge_lt g] at hc
          rcases List.mem_cons.1 hc with rfl | hc
          · exact ha _ (List.mem_cons_self ..)
          · exact ih ar (y :: br) (by simp only [List.length_cons]; omega) (fun d hd => ha d (List.mem_cons_of_mem _ hd)) hb c hc
        · rw [merge_eq g] at hc
          rcases List.mem_cons.1 hc with rfl | hc
          · exact hp _ _ (ha _ (List.mem_cons_self ..)) (hb _ (List.mem_cons_self ..))
          · exact ih ar br (by omega) (fun d hd => ha d (List.mem_cons_of_mem _ hd)) (fun d hd => hb d (List.mem_cons_of_mem _ hd)) c hc
        · rw [merge_gt g] at hc
          rcases List.mem_cons.1 hc with rfl | hc
          · exact hb _ (List.mem_cons_self ..)
          · exact ih (x :: ar) br (by simp only [List.length_cons]; omega) ha (fun d hd => hb d (List.mem_cons_of_mem _ hd)) c hc
/-- a book without a fault, that a value can be -/
def Fine (b : List Ct) : Prop := GoodB b ∧ ∀ c ∈ b, CtW c
theorem fine_merge {a b : List Ct} (ha : Fine a) (hb : Fine b) (hl : (mergeC a b).length ≤ 40) : Fine (mergeC a b) := by
  refine ⟨good_merge ha.1 hb.1 hl, fun c hc => ?_⟩
  have := merge_all (fun c => CtW c ∧ GoodC c) (fun a b h1 h2 => ⟨both_W h1.1 h2.1 h1.2.2.1 h1.2.2.2.1, good_both h1.2 h2.2⟩) _ a b (Nat.le_refl _) (fun c hc => ⟨ha.2 c hc, ha.1.2.2 c hc⟩) (fun c hc => ⟨hb.2 c hc, hb.1.2.2 c hc⟩) c hc
  exact this.1
theorem joinFault_zero {a b : List Ct} (h : joinFault a b = 0) : GoodB a ∧ GoodB b ∧ (mergeC a b).length ≤ 40 := by
  unfold joinFault at h
  split at h
  · rename_i h1; exact absurd h h1
  · rename_i h1
    split at h
    · rename_i h2; exact absurd h h2
    · rename_i h2
      split at h
      · cases h
      · exact ⟨fault_zero.1 (Decidable.not_not.1 h1), fault_zero.1 (Decidable.not_not.1 h2), by omega⟩
theorem joinFault_good {a b : List Ct} (ha : GoodB a) (hb : GoodB b) (hl : (mergeC a b).length ≤ 40) : joinFault a b = 0 := by
  unfold joinFault
  rw [if_neg (by rw [fault_zero.2 ha]; simp), if_neg (by rw [fault_zero.2 hb]; simp), if_neg (by omega)]
/-- a book that is read -/
def BookAt (w : World) (b : List Ct) (a : Option Addr) (cap : Nat) : Prop := b.length ≤ cap ∧ cap ≤ 9223372036854775807 ∧ ∃ e, Rd w a e (cellsC b)
theorem BookAt.below {w w' : World} {b : List Ct} {a : Option Addr} {cap : Nat} (h : BookAt w b a cap) (hb : Below w.heap.size w w') : BookAt w' b a cap := ⟨h.1, h.2.1, h.2.2.choose, h.2.2.choose_spec.below hb⟩
/-- books without a fault, few enough, are joined -/
theorem Join_good {xs ys : List Ct} (hx : Fine xs) (hy : Fine ys) (hl : (mergeC xs ys).length ≤ 40) (ax ay : Option Addr) (cx cy : Nat) (w : World) (hrx : BookAt w xs ax cx) (hry : BookAt w ys ay cy) :
    Calls Try.prog 12 #[.slice ax xs.length cx, .slice ay ys.length cy] w fun e w' => Below w.heap.size w w' ∧ ∃ a cap, e = .returned (.tuple #[.slice a (mergeC xs ys).length cap, .nilIface]) ∧ BookAt w' (mergeC xs ys) a cap := by
  obtain ⟨h1, h2, ex, h3⟩ := hrx
  obtain ⟨k1, k2, ey, k3⟩ := hry
  refine (BJoin_calls xs ys hx.2 hy.2 ax ay cx cy ex ey w h3 k3 (by omega) (by omega) h1 k1 h2 k2).mono ?_
  rintro e w' ⟨hb, ⟨_, a, cap, e', he, c1, c2, hr⟩ | ⟨hne, _⟩⟩
  · exact ⟨hb, a, cap, he, c1, c2, e', hr⟩
  · exact absurd (joinFault_good hx.1 hy.1 hl) hne

def oneKey : List UInt8 := 1 :: List.replicate 31 0
theorem one_good : GoodB [⟨⟨#[97]⟩, oneKey, 1⟩] := fault_zero.1 (by decide +kernel)
set_option maxRecDepth 20000 in
set_option maxHeartbeats 4000000 in
theorem met_calls (w : World) : Calls Try.prog 10 #[] w fun e w' => e = .returned (.bool true) ∧ Below w.heap.size w w' := by
  have MC := Meet_calls [] (fun c hc => by simp at hc) none 0 37 ⟨#[97]⟩ oneKey rfl (by decide) w Rd.nil (by simp) (by simp) (by omega)
  have hm : mergeC [] [⟨⟨#[97]⟩, oneKey, 1⟩] = [⟨⟨#[97]⟩, oneKey, 1⟩] := merge_nil_left _
  have hj : joinFault [] [⟨⟨#[97]⟩, oneKey, 1⟩] = 0 := joinFault_good ⟨by simp, List.Pairwise.nil, fun c hc => by simp at hc⟩ one_good (by rw [hm]; simp)
  have hcw : CtW ⟨⟨#[97]⟩, oneKey, 1⟩ := ⟨rfl, by decide, by decide, by decide⟩
  unfold JoinPost at MC
  rw [hm] at MC
  obtain ⟨c, hc⟩ : ∃ c : Ct, c = ⟨⟨#[97]⟩, oneKey, 1⟩ := ⟨_, rfl⟩
  have hl : c.lvl = 1 := by rw [hc]
  rw [← hc] at MC hj hm hcw
  clear hc hm
  go_enter Try.func10, Try.ntmps10
  go_wp2_with fail
  refine MC.mono ?_
  rintro e w5 ⟨hb5, ⟨_, a, cap, e', rfl, c1, c2, hr⟩ | ⟨hne, _⟩⟩
  · obtain ⟨B, o, rfl, _, hrg⟩ := hr.cont (fun d hd => by rw [List.mem_singleton.1 hd]; exact hcw) (k := 0) (by simp)
    have cl := range_lvl hcw hrg
    rw [hl] at cl
    simp only [Nat.zero_mul, Nat.add_zero] at cl
    have HB := Lib.hid hb5
    clear hb5 hr hrg MC hj hl c1
    simp only [List.length_cons, List.length_nil, Nat.zero_add]
    go_wp2_with fail
    go_ret
    exact ⟨rfl, HB.out⟩
  · exact absurd hj hne
end Go.Proofs.Ytpfpcklonkgkeaa
