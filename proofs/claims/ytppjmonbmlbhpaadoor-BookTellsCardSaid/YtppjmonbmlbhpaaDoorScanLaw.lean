/- Law: the document's way to join two books (the next name of both, again and again) makes the merged book. Plain: no program is in sight. -/
import Derived.Test.YtppjmonbmlbhpaaDoorBookLaw
namespace Go.Proofs.YtppjmonbmlbhpaaDoor
set_option linter.unusedVariables false
def noName : ByteArray := ⟨#[]⟩
theorem sb_noName : sb noName = [] := rfl
theorem bl_nil_right (a : List UInt8) : Op.bytesLess a [] = false := by cases a <;> rfl
theorem bl_nil_left {s : ByteArray} (h : s ≠ noName) : Op.bytesLess [] (sb s) = true := by
  cases e : sb s with
  | nil => exact absurd (sb_inj (e.trans sb_noName.symm)) h
  | cons x xs => rfl
def stepN (last cur s : ByteArray) : ByteArray := if Op.bytesLess (sb last) (sb s) = true ∧ (cur = noName ∨ Op.bytesLess (sb s) (sb cur) = true) then s else cur
def scanN (last : ByteArray) (L : List Ct) : ByteArray := L.foldl (fun cur c => stepN last cur c.name) noName
theorem scan_nil (last : ByteArray) : scanN last [] = noName := rfl
theorem scan_take {last : ByteArray} {L : List Ct} {i : Nat} (h : i < L.length) : scanN last (L.take (i + 1)) = stepN last (scanN last (L.take i)) L[i].name := by
  unfold scanN
  rw [List.take_succ_eq_append_getElem h, List.foldl_append]
  rfl
def ScanOk (last n : ByteArray) (L : List Ct) : Prop :=
  (n = noName ∧ ∀ c ∈ L, Op.bytesLess (sb last) (sb c.name) = false) ∨
  (Op.bytesLess (sb last) (sb n) = true ∧ (∃ c ∈ L, c.name = n) ∧ ∀ c ∈ L, Op.bytesLess (sb last) (sb c.name) = true → Op.bytesLess (sb c.name) (sb n) = false)
theorem scan_ok (last : ByteArray) (L : List Ct) : ∀ i, i ≤ L.length → ScanOk last (scanN last (L.take i)) (L.take i) := by
  intro i
  induction i with
  | zero => intro _; exact .inl ⟨rfl, fun c hc => by simp at hc⟩
  | succ i ih =>
    intro hi
    have h := ih (by omega)
    rw [scan_take (show i < L.length by omega)]
    rw [List.take_succ_eq_append_getElem (show i < L.length by omega)]
    obtain ⟨s, hs⟩ : ∃ s, s = scanN last (L.take i) := ⟨_, rfl⟩
    rw [← hs] at h ⊢
    obtain ⟨x, hx⟩ : ∃ x, x = L[i] := ⟨_, rfl⟩
    rw [← hx]
    unfold stepN
    by_cases h1 : Op.bytesLess (sb last) (sb x.name) = true
    · rcases h with ⟨h2, h3⟩ | ⟨h2, h3, h4⟩
      · rw [if_pos ⟨h1, .inl h2⟩]
        refine .inr ⟨h1, ⟨x, by simp, rfl⟩, fun c hc h5 => ?_⟩
        rcases List.mem_append.1 hc with h6 | h6
        · rw [h3 c h6] at h5; cases h5
        · rw [List.mem_singleton.1 h6]; exact bl_irrefl _
      · by_cases h5 : Op.bytesLess (sb x.name) (sb s) = true
        · rw [if_pos ⟨h1, .inr h5⟩]
          refine .inr ⟨h1, ⟨x, by simp, rfl⟩, fun c hc h6 => ?_⟩
          rcases List.mem_append.1 hc with h7 | h7
          · have h8 := h4 c h7 h6
            cases h9 : Op.bytesLess (sb c.name) (sb x.name) with
            | false => rfl
            | true => rw [bl_trans _ _ _ h9 h5] at h8; cases h8
          · rw [List.mem_singleton.1 h7]; exact bl_irrefl _
        · have h7 : s ≠ noName := fun e => by rw [e, sb_noName, bl_nil_right] at h2; cases h2
          rw [if_neg (fun ⟨_, e⟩ => by rcases e with e | e; exact h7 e; exact h5 e)]
          obtain ⟨c0, hc0, he0⟩ := h3
          refine .inr ⟨h2, ⟨c0, by simp [hc0], he0⟩, fun c hc h6 => ?_⟩
          rcases List.mem_append.1 hc with h8 | h8
          · exact h4 c h8 h6
          · rw [List.mem_singleton.1 h8]; cases h9 : Op.bytesLess (sb x.name) (sb s) with
            | false => rfl
            | true => exact absurd h9 h5
    · rw [if_neg (fun ⟨e, _⟩ => h1 e)]
      have h1' : Op.bytesLess (sb last) (sb x.name) = false := by cases h9 : Op.bytesLess (sb last) (sb x.name) with
        | false => rfl
        | true => exact absurd h9 h1
      rcases h with ⟨h2, h3⟩ | ⟨h2, ⟨c0, hc0, he0⟩, h4⟩
      · refine .inl ⟨h2, fun c hc => ?_⟩
        rcases List.mem_append.1 hc with h8 | h8
        · exact h3 c h8
        · rw [List.mem_singleton.1 h8]; exact h1'
      · refine .inr ⟨h2, ⟨c0, by simp [hc0], he0⟩, fun c hc h6 => ?_⟩
        rcases List.mem_append.1 hc with h8 | h8
        · exact h4 c h8 h6
        · rw [List.mem_singleton.1 h8, h1'] at h6; cases h6
theorem scan_all (last : ByteArray) (L : List Ct) : ScanOk last (scanN last L) L := by
  have := scan_ok last L L.length (Nat.le_refl _)
  rwa [List.take_length] at this

theorem good_name {c : Ct} (h : GoodC c) : c.name ≠ noName := fun e => by
  have h1 := h.1
  rw [e] at h1
  simp [named, noName] at h1
/-- the name that was told last: of the first k -/
def lastN (M : List Ct) (k : Nat) : ByteArray := if k = 0 then noName else (M[k - 1]?).elim noName Ct.name
theorem last_zero (M : List Ct) : lastN M 0 = noName := rfl
theorem last_succ {M : List Ct} {k : Nat} (h : k < M.length) : lastN M (k + 1) = M[k].name := by
  unfold lastN
  rw [if_neg (by omega), Nat.add_sub_cancel, List.getElem?_eq_getElem h]
  rfl
theorem sorted_lt {M : List Ct} (hs : SortedC M) {i j : Nat} (hij : i < j) (hj : j < M.length) : Op.bytesLess (sb M[i].name) (sb M[j].name) = true :=
  List.pairwise_iff_getElem.1 hs i j (by omega) hj hij
theorem last_less {M : List Ct} (hs : SortedC M) (hn : ∀ c ∈ M, c.name ≠ noName) {k j : Nat} (hk : k ≤ M.length) (hj : j < M.length) : Op.bytesLess (sb (lastN M k)) (sb M[j].name) = decide (k ≤ j) := by
  cases k with
  | zero =>
    rw [last_zero, sb_noName, bl_nil_left (hn _ (List.getElem_mem hj))]
    simp
  | succ k =>
    rw [last_succ (by omega)]
    rcases Nat.lt_trichotomy k j with h | h | h
    · rw [sorted_lt hs h hj, decide_eq_true (by omega)]
    · subst h; rw [bl_irrefl, decide_eq_false (by omega)]
    · rw [bl_asymm _ _ (sorted_lt hs h (by omega)), decide_eq_false (by omega)]
theorem lk_at {M : List Ct} (hs : SortedC M) {k : Nat} (hk : k < M.length) : lk M M[k].name = some M[k] := by
  cases h : lk M M[k].name with
  | none =>
    unfold lk at h
    rw [List.find?_eq_none] at h
    exact absurd (h _ (List.getElem_mem hk)) (by simp)
  | some c =>
    obtain ⟨h1, h2⟩ := lk_some h
    obtain ⟨j, hj, rfl⟩ := List.getElem_of_mem h1
    rcases Nat.lt_trichotomy k j with h3 | h3 | h3
    · have := sorted_lt hs h3 hj; rw [h2, bl_irrefl] at this; cases this
    · subst h3; rfl
    · have := sorted_lt hs h3 hk; rw [h2, bl_irrefl] at this; cases this
theorem mem_merge {a b : List Ct} (ha : SortedC a) (hb : SortedC b) {c : Ct} (hc : c ∈ a ++ b) : ∃ m ∈ mergeC a b, m.name = c.name := by
  have hl := lk_merge' ha hb c.name
  have hne : lk (mergeC a b) c.name ≠ none := by
    rw [hl]
    rcases List.mem_append.1 hc with h | h
    · obtain ⟨j, hj, rfl⟩ := List.getElem_of_mem h
      rw [lk_at ha hj]
      cases lk b a[j].name <;> simp [optB]
    · obtain ⟨j, hj, rfl⟩ := List.getElem_of_mem h
      rw [lk_at hb hj]
      cases lk a b[j].name <;> simp [optB]
  cases h : lk (mergeC a b) c.name with
  | none => exact absurd h hne
  | some m => obtain ⟨h1, h2⟩ := lk_some h; exact ⟨m, h1, h2⟩
theorem merge_mem {a b : List Ct} {m : Ct} (hm : m ∈ mergeC a b) : ∃ c ∈ a ++ b, c.name = m.name := by
  rcases merge_names _ a b (Nat.le_refl _) m hm with ⟨z, hz, e⟩ | ⟨z, hz, e⟩
  · exact ⟨z, by simp [hz], e⟩
  · exact ⟨z, by simp [hz], e⟩
theorem merge_named {a b : List Ct} (ha : GoodB a) (hb : GoodB b) : ∀ c ∈ mergeC a b, c.name ≠ noName := fun c hc => good_name (merge_good _ a b (Nat.le_refl _) ha.2.2 hb.2.2 c hc)
/-- the next name behind the first k is that of the k-th; behind all there is none -/
theorem scan_next {a b : List Ct} (ha : GoodB a) (hb : GoodB b) {k : Nat} (hk : k < (mergeC a b).length) : scanN (lastN (mergeC a b) k) (a ++ b) = (mergeC a b)[k].name := by
  have hs := merge_sorted' ha.2.1 hb.2.1
  have hn := merge_named ha hb
  rcases scan_all (lastN (mergeC a b) k) (a ++ b) with ⟨h1, h2⟩ | ⟨h1, ⟨c, hc, h2⟩, h3⟩
  · obtain ⟨c, hc, e⟩ := merge_mem (List.getElem_mem hk)
    have h4 := h2 c hc
    rw [e, last_less hs hn (by omega) hk, decide_eq_true (Nat.le_refl _)] at h4
    cases h4
  · obtain ⟨m, hm, e⟩ := mem_merge ha.2.1 hb.2.1 hc
    obtain ⟨j, hj, rfl⟩ := List.getElem_of_mem hm
    rw [← h2, ← e] at h1 h3 ⊢
    rw [last_less hs hn (by omega) hj] at h1
    have h4 : k ≤ j := of_decide_eq_true h1
    rcases Nat.lt_or_ge k j with h5 | h5
    · obtain ⟨d, hd, f⟩ := merge_mem (List.getElem_mem hk)
      have h6 := h3 d hd (by rw [f, last_less hs hn (by omega) hk]; simp)
      rw [f, sorted_lt hs h5 hj] at h6
      cases h6
    · obtain rfl : j = k := by omega
      rfl
theorem scan_end {a b : List Ct} (ha : GoodB a) (hb : GoodB b) : scanN (lastN (mergeC a b) (mergeC a b).length) (a ++ b) = noName := by
  have hs := merge_sorted' ha.2.1 hb.2.1
  have hn := merge_named ha hb
  rcases scan_all (lastN (mergeC a b) (mergeC a b).length) (a ++ b) with ⟨h1, h2⟩ | ⟨h1, ⟨c, hc, h2⟩, h3⟩
  · exact h1
  · obtain ⟨m, hm, e⟩ := mem_merge ha.2.1 hb.2.1 hc
    obtain ⟨j, hj, rfl⟩ := List.getElem_of_mem hm
    rw [← h2, ← e, last_less hs hn (Nat.le_refl _) hj, decide_eq_true_eq] at h1
    omega
/-- what is told of that name -/
theorem lk_next {a b : List Ct} (ha : GoodB a) (hb : GoodB b) {k : Nat} (hk : k < (mergeC a b).length) : optB (lk a (mergeC a b)[k].name) (lk b (mergeC a b)[k].name) = some (mergeC a b)[k] := by
  rw [← lk_merge' ha.2.1 hb.2.1, lk_at (merge_sorted' ha.2.1 hb.2.1) hk]
def oneC (a b : Ct) : Ct := if 3 ≤ a.lvl ∧ b.lvl < 3 then a else if 3 ≤ b.lvl ∧ a.lvl < 3 then b else if a.key = b.key ∧ a.lvl = b.lvl then a else if 3 ≤ a.lvl then ⟨a.name, noKey, 4⟩ else ⟨a.name, noKey, 2⟩
theorem one_both {a b : Ct} (hn : a.name = b.name) (ha : 1 ≤ a.lvl ∧ a.lvl ≤ 4) (hb : 1 ≤ b.lvl ∧ b.lvl ≤ 4) : oneC a b = bothC a b := by
  have ra : rk a = if 3 ≤ a.lvl then 2 else 1 := by unfold rk; split <;> omega
  have rb : rk b = if 3 ≤ b.lvl then 2 else 1 := by unfold rk; split <;> omega
  have he : (a.key = b.key ∧ a.lvl = b.lvl) ↔ a = b := ⟨fun ⟨h1, h2⟩ => by cases a; cases b; simp_all, fun h => by subst h; exact ⟨rfl, rfl⟩⟩
  unfold oneC
  by_cases h1 : 3 ≤ a.lvl
  · by_cases h2 : 3 ≤ b.lvl
    · rw [if_neg (by omega), if_neg (by omega)]
      have hr : rk a = rk b := by rw [ra, rb, if_pos h1, if_pos h2]
      by_cases h3 : a = b
      · rw [if_pos (he.2 h3), ← h3, both_same]
      · rw [if_neg (fun e => h3 (he.1 e)), if_pos h1, both_eq hr h3, ra, if_pos h1]
        rfl
    · rw [if_pos (by omega), both_gt (by rw [ra, rb, if_pos h1, if_neg h2]; decide)]
  · by_cases h2 : 3 ≤ b.lvl
    · rw [if_neg (by omega), if_pos (by omega), both_lt (by rw [ra, rb, if_pos h2, if_neg h1]; decide)]
    · rw [if_neg (by omega), if_neg (by omega)]
      have hr : rk a = rk b := by rw [ra, rb, if_neg h1, if_neg h2]
      by_cases h3 : a = b
      · rw [if_pos (he.2 h3), ← h3, both_same]
      · rw [if_neg (fun e => h3 (he.1 e)), if_neg h1, both_eq hr h3, ra, if_neg h1]
        rfl
end Go.Proofs.YtppjmonbmlbhpaaDoor
