/- Words for the walks: an entry that is made of a key and a digest; an append that leaves the other blocks; a block that is written anew. -/
import Derived.Test.YtpeomfehdccmmaaDoorTrieLeafed
import Derived.Test.YtpeomfehdccmmaaDoorAppW
import Derived.Lib.OwnKind
namespace Go.Proofs.YtpeomfehdccmmaaDoor
open Go.RowKit
set_option linter.unusedVariables false
theorem dig32 (d : List UInt8) (h : d.length = 32) : ∃ b : Fin 32 → UInt8, d = List.ofFn b := ⟨fun i => d[i.1]'(by omega), by
  apply List.ext_getElem
  · rw [List.length_ofFn]; exact h
  · intro i h1 h2; rw [List.getElem_ofFn]⟩
theorem built_kv (k : Int) (d : List UInt8) (h : d.length = 32) : Tryd.prog.built 35 [(0, .int .i64 k), (1, .agg (dV d))] = some (eV k d) := by
  obtain ⟨b, rfl⟩ := dig32 d h
  kernel_rfl
theorem wpl_entKV {w : World} {ops : Array Oper} {rest : List Oper} {o : Oper} {a : Act} {Q : Exit → Act → World → Prop} (hg : o.guard = none) (x y : Operand) (ho : o.op = .build 35 #[(0, x), (1, y)]) (k : Int) (hx : a.eval x = .int .i64 k) (d : List UInt8) (hd : d.length = 32) (hy : a.eval y = .agg (dV d)) (h : wpList Tryd.prog ops Q rest (a.put o.dst (.agg (eV k d))) w) : wpList Tryd.prog ops Q (o :: rest) a w := by
  refine wpList_plain hg fun _ hK => ?_
  unfold Oper.wp execOp
  simp only [ho, Sem.run_bind]
  have := run_build (P := Tryd.prog) w 35 #[(0, .int .i64 k), (1, .agg (dV d))] (eV k d) (built_kv k d hd)
  simp only [List.map_toArray, List.map_cons, List.map_nil, hx, hy, this, Result.andThen_ok]
  exact hK _ _ h
section
variable {P : Program} {w : World} {ops : Array Oper} {rest : List Oper} {o : Oper} {a : Act} {Q : Exit → Act → World → Prop}
/-- 'append' onto an owned slice: blocks of other types are left as they are -/
theorem appRdg (T e : TypeId) (z : Value) (size bytes : Nat) (ht : P.underlying T = some (.slice e)) (hinfo : (P.info? e).map (fun i => (i.zero, i.size, i.bytes)) = some (some z, size, bytes)) (hzs : z.cells.size = size) (hsz : 0 < size)
    (hgd : o.guard = none) (s x : Operand) (ho : o.op = .call { callee := .builtin .append, args := #[s, x], argTypes := #[T, T] })
    (base : Nat) (v : Value) (n : Nat) (xs : List Value) (hs : a.eval s = v) (hown : w.ownsRow base e size v n xs) (ad : Addr) (m c : Nat) (news : List Value) (hx : a.eval x = .slice (some ad) m c) (es : TypeId)
    (hu : Rd w (some ad) es news) (hl : news.length = m * size) (h1 : ∀ u ∈ news, u.oneCell' = true) (hm : 0 < m) (hn : n + m ≤ 140737488355328) (hnb : (n + m) * bytes ≤ 140737488355328) (hbase : base ≤ w.heap.size)
    (h : ∀ av cap w', w'.ownsRow base e size (.slice av (n + m) cap) (n + m) (xs ++ news) → Below base w w' → (∀ (b : Nat) (cs : Array Value) (U : TypeId) (fr : Nat × Nat), w.heap[b]? = some (.cells cs U fr) → U ≠ e → w'.heap[b]? = some (.cells cs U fr)) → wpList P ops Q rest (a.put o.dst (.slice av (n + m) cap)) w') : wpList P ops Q (o :: rest) a w := by
  refine appRdw T e z size bytes ht hinfo hzs hsz hgd s x ho base v n xs hs hown ad m c news hx es hu hl h1 hm hn hnb hbase _ rfl ?_
  intro g cap w' hown' hgrow hat hlt
  refine h _ _ _ hown' (below_grow (Below.refl base w) hown hgrow hbase) fun b cs U fr hb hT => ?_
  refine (hgrow.block b (lt_of_heap hb) fun hv => ?_).trans hb
  obtain ⟨c2, fz, h2⟩ := Lib.ownsRow_kind hown b hv.symm
  rw [hb] at h2
  simp only [Option.some.injEq, Obj.cells.injEq] at h2
  exact hT h2.2.1
end
theorem rd_setRow {w : World} {a : Option Addr} {e : TypeId} {xs : List Value} (h : Rd w a e xs) {X : Nat} {cs : Array Value} {T : TypeId} {fr : Nat × Nat} (hb : w.heap[X]? = some (.cells cs T fr)) (hT : T ≠ e) (d : Array Value) : Rd (w.setRow X d) a e xs := by
  rcases h with h | ⟨B, o', c2, f2, h0, h1, h2⟩
  · exact .inl h
  · have hne : B ≠ X := fun he => by
      rw [he, hb] at h1
      simp only [Option.some.injEq, Obj.cells.injEq] at h1
      exact hT h1.2.1
    exact .inr ⟨B, o', c2, f2, h0, (_root_.Go.setRow_other w X B d hne).trans h1, h2⟩
end Go.Proofs.YtpeomfehdccmmaaDoor
