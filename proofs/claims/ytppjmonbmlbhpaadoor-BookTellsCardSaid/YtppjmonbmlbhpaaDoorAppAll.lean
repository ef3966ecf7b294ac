/- All of a list, or nothing, appended to what the call owns. It says nothing of the program. -/
import Derived.Test.YtppjmonbmlbhpaaDoorMemA
namespace Go.Proofs.YtppjmonbmlbhpaaDoor
open Go.RowKit
theorem run_append_zero (P : Program) (w : World) (t ty e : TypeId) (i : TypeInfo) (ht : P.underlying t = some (.slice e)) (hi : P.info? e = some i) (b : Option Addr) (n cap : Nat) (hle : n ≤ cap) (av : Option Addr) (c : Nat) :
    (Builtin.append_ #[t, t] ty #[.slice b n cap, .slice av 0 c]).run P w = .ok (.slice b n cap) w := by
  cases b <;> cases av <;> simp [Builtin.append_, run_underlying ht, sizeOf, typeInfo, hi, Builtin.firstCells, Builtin.lenOf, hle, storeCells, loadCells, loadCellsFrom]
theorem own_capp {w : World} {base : Nat} {e : TypeId} {size : Nat} {a : Option Addr} {n cap : Nat} {xs : List Value} (h : w.ownsRow base e size (.slice a n cap) n xs) : n ≤ cap ∧ cap ≤ 9223372036854775807 := by
  rcases h.2 with ⟨h1, h2⟩ | ⟨g, cap', cur, hv, _, _, h1, h2, _⟩
  · simp only [Value.slice.injEq] at h1
    omega
  · simp only [Value.slice.injEq] at hv
    simp only [maxLen] at h2
    omega
section
variable {P : Program} {w : World} {ops : Array Oper} {rest : List Oper} {o : Oper} {a : Act} {Q : Exit → Act → World → Prop}
theorem appAll (T e : TypeId) (z : Value) (size bytes : Nat) (ht : P.underlying T = some (.slice e)) (hinfo : (P.info? e).map (fun i => (i.zero, i.size, i.bytes)) = some (some z, size, bytes)) (hzs : z.cells.size = size) (hsz : 0 < size) (hby : bytes ≤ 64)
    (hgd : o.guard = none) (s x : Operand) (ho : o.op = .call { callee := .builtin .append, args := #[s, x], argTypes := #[T, T] })
    (base : Nat) (v : Value) (n : Nat) (xs : List Value) (hs : a.eval s = v) (hown : w.ownsRow base e size v n xs) (ad : Option Addr) (m c : Nat) (news : List Value) (hx : a.eval x = .slice ad m c) (es : TypeId)
    (hu : Rd w ad es news) (hl : news.length = m * size) (h1 : ∀ u ∈ news, u.oneCell' = true) (hn : n + m ≤ 2000000000000) (hbase : base ≤ w.heap.size)
    (h : ∀ av cap w', w'.ownsRow base e size (.slice av (n + m) cap) (n + m) (xs ++ news) → Below base w w' → wpList P ops Q rest (a.put o.dst (.slice av (n + m) cap)) w') : wpList P ops Q (o :: rest) a w := by
  by_cases hm : 0 < m
  · have hlt : 0 < news.length := by rw [hl]; exact Nat.mul_pos hm hsz
    cases ad with
    | none =>
      rcases hu with h0 | ⟨B, o', cs, fr, h0, _⟩
      · rw [h0] at hlt; cases hlt
      · cases h0
    | some ad =>
      refine appRd T e z size bytes ht hinfo hzs hsz hby hgd s x ho base v n xs hs hown ad m c news hx es hu hl h1 hm hn hbase _ rfl ?_
      intro g cap w' hown' hgrow hat hlt
      exact h _ _ _ hown' (below_grow (Below.refl base w) hown hgrow hbase)
  · obtain rfl : m = 0 := by omega
    obtain rfl : news = [] := List.length_eq_zero_iff.1 (by rw [hl]; omega)
    obtain ⟨i, hi, _⟩ := info_parts hinfo
    obtain ⟨av, cap, rfl⟩ := own_slice hown
    refine wpList_plain hgd fun K hK => ?_
    unfold Oper.wp execOp
    simp only [ho, resolve, invoke, builtin, Sem.run_bind, Sem.run_pure, Result.andThen_ok, List.map_toArray, List.map_cons, List.map_nil, hs, hx, run_append_zero P w T o.type e i ht hi av n cap (own_capp hown).1 ad c]
    have := h av cap w (by simpa using hown) (Below.refl base w)
    exact hK _ _ this
end
end Go.Proofs.YtppjmonbmlbhpaaDoor
