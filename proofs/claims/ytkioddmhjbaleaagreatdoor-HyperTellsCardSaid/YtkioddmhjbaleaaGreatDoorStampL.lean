/- What the laws of stamps need. -/
import Derived.Test.YtkioddmhjbaleaaGreatDoorStamp3
namespace Go.Proofs.YtkioddmhjbaleaaGreatDoor
open Go.RowKit
set_option linter.unusedVariables false
set_option linter.unusedSimpArgs false
/-- one block has turned, and no other -/
def Only (w w' : World) (X : Nat) : Prop := w'.heap.size = w.heap.size ∧ ∀ b, b ≠ X → w'.heap[b]? = w.heap[b]?
theorem Only.setCell (w : World) (X o : Nat) (v : Value) : Only w (w.setCell ⟨X, o, none⟩ v) X := ⟨by simp [World.setCell], fun b hb => Below.heap_setCell _ _ _ _ (by show b ≠ X; exact hb)⟩
theorem Only.setRow (w : World) (X : Nat) (cs : Array Value) : Only w (w.setRow X cs) X := ⟨setRow_size _ _ _, fun b hb => _root_.Go.setRow_other _ _ _ _ hb⟩
theorem Only.blk {w w' : World} {X b : Nat} (h : Only w w' X) {c c' : Array Value} {t t' : TypeId} {fr fr' : Nat × Nat} (hX : w.heap[X]? = some (.cells c t fr)) (hb : w.heap[b]? = some (.cells c' t' fr')) (hne : t ≠ t') : w'.heap[b]? = some (.cells c' t' fr') :=
  (h.2 b (fun e => by subst e; rw [hX] at hb; simp only [Option.some.injEq, Obj.cells.injEq] at hb; exact hne hb.2.1)).trans hb
theorem Only.rd {w w' : World} {X : Nat} (h : Only w w' X) {c : Array Value} {t e : TypeId} {fr : Nat × Nat} (hX : w.heap[X]? = some (.cells c t fr)) (hne : t ≠ e) {a : Option Addr} {vs : List Value} (hr : Rd w a e vs) : Rd w' a e vs := by
  rcases hr with h0 | ⟨b, o, cur, fr', rfl, hc, hi⟩
  · exact .inl h0
  · exact .inr ⟨b, o, cur, fr', rfl, h.blk hX hc hne, hi⟩
theorem Only.stamp {w w' : World} {X : Nat} (h : Only w w' X) {c : Array Value} {t : TypeId} {fr : Nat × Nat} (hX : w.heap[X]? = some (.cells c t fr)) (h1 : t ≠ 82) (h2 : t ≠ 23) {P : Nat} {seed : List UInt8} {n nx : Nat} (hs : StampAt w P seed n nx) : StampAt w' P seed n nx := by
  obtain ⟨la, cap, a1, a2, a3, a4, a5⟩ := hs
  exact ⟨la, cap, h.blk hX a1 h1, a2, a3, h.rd hX h2 a4, a5⟩
theorem Save.blk {w w' : World} {P : Nat} {seed : List UInt8} {n nx : Nat} (h : Save w w' P) (hs : StampAt w P seed n nx) {b : Nat} {c : Array Value} {t : TypeId} {fr : Nat × Nat} (hb : w.heap[b]? = some (.cells c t fr)) (hne : t ≠ 82) : w'.heap[b]? = some (.cells c t fr) := by
  obtain ⟨_, _, hp, _⟩ := hs
  exact (h.2.2 b (fun e => by subst e; rw [hp] at hb; simp only [Option.some.injEq, Obj.cells.injEq] at hb; exact hne hb.2.1.symm) (lt_of_heap hb)).trans hb
theorem Save.rdS {w w' : World} {P : Nat} {seed : List UInt8} {n nx : Nat} (h : Save w w' P) (hs : StampAt w P seed n nx) {a : Option Addr} {vs : List Value} (hr : Rd w a 23 vs) : Rd w' a 23 vs := by
  obtain ⟨_, _, hp, _⟩ := hs
  exact h.rd hp hr
theorem st_sigNew {ops : Array Oper} {rest : List Oper} {op : Oper} {a : Act} {w : World} {Q : Exit → Act → World → Prop} (hgd : op.guard = none) (x y : Operand) (ho : op.op = .store 26 x y) (u v z : Value) (hy : a.eval y = .agg #[u, v, z]) (Z : Array Value) (t : TypeId) (hZ : Z.size = 3) (hx : a.eval x = .pointer (some ⟨w.heap.size, 0, none⟩)) (h1 : (#[u, v, z] : Array Value).all (·.oneCell') = true)
    (h : wpList Tryz.prog ops Q rest (a.put op.dst undef) (w.alloc (.cells #[u, v, z] t))) : wpList Tryz.prog ops Q (op :: rest) a (w.alloc (.cells Z t)) :=
  st_sig hgd x y ho w.heap.size u v z hx hy Z hZ t (heap_alloc_new w _) h1 (by rw [World.setRow_alloc_new]; exact h)
theorem ld_sig {ops : Array Oper} {rest : List Oper} {op : Oper} {a : Act} {w : World} {Q : Exit → Act → World → Prop} (hgd : op.guard = none) (x : Operand) (ho : op.op = .load 26 x) (g : Nat) (hx : a.eval x = .pointer (some ⟨g, 0, none⟩)) (u v z : Value) (t : TypeId) (fr : Nat × Nat) (hg : w.heap[g]? = some (.cells #[u, v, z] t fr))
    (h : wpList Tryz.prog ops Q rest (a.put op.dst (.agg #[u, v, z])) w) : wpList Tryz.prog ops Q (op :: rest) a w :=
  wpList_load_row hgd _ x ho g hx t #[u, v, z] fr _ hg Tryz.underlying26 rfl (info_sig u v z) h
/-- what Sign tells, its place as an integer -/
def SignZ (w : World) (P : Nat) (seed : List UInt8) (n nx : Nat) (z : Int) (m : List UInt8) (e : Ending) (w' : World) : Prop :=
  ∃ sa sc pa pc, e = .returned (.tuple #[.agg #[.int .i64 z, .slice sa 67 sc, .slice pa (tlong nx n) pc], .nilIface]) ∧ Rd w' sa 23 ((wsig (skey seed nx) m).flatten.map vB) ∧ Rd w' pa 23 ((tpath (leavesK seed n) nx).flatten.map vB) ∧ StampAt w' P seed n (nx + 1) ∧ Save w w' P
theorem Sign_z (seed m : List UInt8) (hs : seed.length = 32) (hm : m.length = 32) (P n nx : Nat) (z : Int) (hz : z = (nx : Int)) (hn : n ≤ 256) (hlt : nx < n) (w : World) (hsa : StampAt w P seed n nx) (hro : RoundsAt w) :
    Calls Tryz.prog 33 #[.pointer (some ⟨P, 0, none⟩), .agg (dV m)] w (SignZ w P seed n nx z m) := by
  subst hz; exact Sign_ok seed m hs hm P n nx hn hlt w hsa hro
theorem New_z (seed : List UInt8) (hs : seed.length = 32) (h : Nat) (z : Int) (hz : z = (h : Int)) (hh : h ≤ 4) (n : Nat) (hn : n = 2 ^ h) (w : World) (hro : RoundsAt w) : Calls Tryz.prog 27 #[.agg (dV seed), .int .i64 z] w (NewPostS w seed n) := by
  subst hz hn; exact StampNew_ok seed hs h hh w hro
theorem Public_z (seed : List UInt8) (hs : seed.length = 32) (h : Nat) (z : Int) (hz : z = (h : Int)) (hh : h ≤ 4) (n : Nat) (hn : n = 2 ^ h) (w : World) (hro : RoundsAt w) : Calls Tryz.prog 24 #[.agg (dV seed), .int .i64 z] w fun e w' => e = .returned (.tuple #[.agg (dV (troot (leavesK seed n))), .nilIface]) ∧ Below w.heap.size w w' := by
  subst hz hn; exact SPublic_ok seed hs h hh w hro
theorem Recover_z (m : List UInt8) (hm : m.length = 32) (sig : List (List UInt8)) (hd : ∀ d ∈ sig, d.length = 32) (h67 : sig.length = 67) (h : Nat) (hz : Int) (hhz : hz = (h : Int)) (hh : h ≤ 4) (n : Nat) (hn : n = 2 ^ h) (i : Nat) (z : Int) (hiz : z = (i : Int)) (hi : i < n) (sga pa : Option Addr) (sgc pl pc e0 e1 : Nat) (ps : List (List UInt8)) (hp : ∀ p ∈ ps, p.length = 32) (hpl : ps.length = tlong i n) (hpl2 : pl = ps.length) (w : World) (hr : Rd w sga e0 (sig.flatten.map vB)) (hrp : Rd w pa e1 (ps.flatten.map vB)) (hro : RoundsAt w) :
    Calls Tryz.prog 39 #[.agg (dV m), .int .i64 hz, .agg #[.int .i64 z, .slice sga 67 sgc, .slice pa pl pc]] w fun e w' => e = .returned (.tuple #[.agg (dV (tfold (wkey m sig) i n ps)), .nilIface]) ∧ Below w.heap.size w w' := by
  subst hhz hiz hpl2 hn
  have := SRecover_ok m hm sig h67 hd h hh i hi sga pa sgc pc e0 e1 ps hp hpl w hr hrp hro
  rw [h67] at this
  exact this
theorem RStamp_z (seed : List UInt8) (hs : seed.length = 32) (k : Nat) (z : Int) (hz : z = (k : Int)) (hk : k < 256) (w : World) : Calls Tryz.prog 18 #[.agg (dV seed), .int .i64 z] w fun e w' => e = .returned (.agg (dV (skey seed k))) ∧ Below w.heap.size w w' := by
  subst hz; exact RStampK seed hs k hk w
theorem hf_two2 : hf 2 = 1 := by decide +kernel
theorem tlong_02 : tlong 0 2 = 1 := by rw [tlong_left (by omega) (by rw [hf_two2]; omega), hf_two2, tlong_one (by omega)]
theorem tlong_12 : tlong 1 2 = 1 := by rw [tlong_right (by omega) (by rw [hf_two2]; omega), hf_two2, tlong_one (by omega)]
theorem tpath_02 (a b : List UInt8) : tpath [a, b] 0 = [b] := by
  rw [tpath_left (by simp) (by simp [hf_two2])]
  simp [hf_two2, tpath_one, troot_one]
theorem tpath_12 (a b : List UInt8) : tpath [a, b] 1 = [a] := by
  rw [tpath_right (by simp) (by simp [hf_two2])]
  simp [hf_two2, tpath_one, troot_one]
theorem troot_2 (a b : List UInt8) : troot [a, b] = tnode a b := by
  rw [troot_step (by simp)]
  simp [hf_two2, troot_one]
theorem leavesK_2 (seed : List UInt8) : leavesK seed 2 = [wpub (skey seed 0), wpub (skey seed 1)] := rfl
theorem tfold_02 (l p : List UInt8) : tfold l 0 2 [p] = tnode l p := by
  have := tfold_left (l := l) (i := 0) (n := 2) (ps := []) (p := p) (by omega) (by rw [hf_two2]; omega) (by rw [tlong_02]; rfl)
  rw [List.nil_append] at this
  rw [this, hf_two2, tfold_one (by omega) (by rw [tlong_one (by omega)]; rfl)]
theorem tfold_12 (l p : List UInt8) : tfold l 1 2 [p] = tnode p l := by
  have := tfold_right (l := l) (i := 1) (n := 2) (ps := []) (p := p) (by omega) (by rw [hf_two2]; omega) (by rw [tlong_12]; rfl)
  rw [List.nil_append] at this
  rw [this, hf_two2, tfold_one (by omega) (by rw [tlong_one (by omega)]; rfl)]
end Go.Proofs.YtkioddmhjbaleaaGreatDoor
