/- Walks: book.Meet and book.Trust: a book joined with one contact. -/
import Derived.Test.YtppjmonbmlbhpaaDoorBooks
namespace Go.Proofs.YtppjmonbmlbhpaaDoor
open Go.RowKit
set_option linter.unusedVariables false
set_option linter.unusedSimpArgs false
theorem run_build_cont32 (name : ByteArray) (l : Int) (k0 k1 k2 k3 k4 k5 k6 k7 k8 k9 k10 k11 k12 k13 k14 k15 k16 k17 k18 k19 k20 k21 k22 k23 k24 k25 k26 k27 k28 k29 k30 k31 : UInt8) (w : World) : (Instr.build 37 #[(0, .string name), (1, .agg (dV [k0, k1, k2, k3, k4, k5, k6, k7, k8, k9, k10, k11, k12, k13, k14, k15, k16, k17, k18, k19, k20, k21, k22, k23, k24, k25, k26, k27, k28, k29, k30, k31])), (2, .int .i64 l)]).run Tryd.prog w = .ok (.agg (cV ⟨name, [k0, k1, k2, k3, k4, k5, k6, k7, k8, k9, k10, k11, k12, k13, k14, k15, k16, k17, k18, k19, k20, k21, k22, k23, k24, k25, k26, k27, k28, k29, k30, k31], l⟩)) w := by kernel_rfl
theorem run_build_cont (name : ByteArray) (l : Int) : ∀ (key : List UInt8), key.length = 32 → ∀ w : World, (Instr.build 37 #[(0, .string name), (1, .agg (dV key)), (2, .int .i64 l)]).run Tryd.prog w = .ok (.agg (cV ⟨name, key, l⟩)) w := by
  intro key hk w
  match key, hk with
  | [k0, k1, k2, k3, k4, k5, k6, k7, k8, k9, k10, k11, k12, k13, k14, k15, k16, k17, k18, k19, k20, k21, k22, k23, k24, k25, k26, k27, k28, k29, k30, k31], _ => exact run_build_cont32 name l k0 k1 k2 k3 k4 k5 k6 k7 k8 k9 k10 k11 k12 k13 k14 k15 k16 k17 k18 k19 k20 k21 k22 k23 k24 k25 k26 k27 k28 k29 k30 k31 w
section
variable {ops : Array Oper} {rest : List Oper} {op : Oper} {a : Act} {w : World} {Q : Exit → Act → World → Prop}
theorem bld_cont (hgd : op.guard = none) (x y : Operand) (l : Int) (ho : op.op = .build 37 #[(0, x), (1, y), (2, .const (.int .i64 l))]) (name : ByteArray) (key : List UInt8) (hk : key.length = 32) (hx : a.eval x = .string name) (hy : a.eval y = .agg (dV key))
    (h : wpList Tryd.prog ops Q rest (a.put op.dst (.agg (cV ⟨name, key, l⟩))) w) : wpList Tryd.prog ops Q (op :: rest) a w :=
  wpList_plain hgd fun K hK => by
    unfold Oper.wp execOp
    simp only [ho, List.map_toArray, List.map_cons, List.map_nil, hx, hy, BigFrame.eval_const, Sem.run_bind, run_build_cont name l key hk w, Result.andThen_ok]
    exact hK _ _ h
theorem bld_one (hgd : op.guard = none) (x : Operand) (ho : op.op = .buildSlice 22 1 #[(0, x)]) (c : Ct) (hc : CtW c) (hx : a.eval x = .agg (cV c))
    (h : wpList Tryd.prog ops Q rest (a.put op.dst (.slice (some ⟨w.heap.size, 0, none⟩) 1 1)) (w.alloc (.cells (cV c) 37))) : wpList Tryd.prog ops Q (op :: rest) a w :=
  wpList_plain hgd fun K hK => wpBuild1 22 37 _ 34 56 Tryd.underlying22 info_cont (by omega) (by omega) x ho (cV c) hx (cV_size hc) (hK _ _ h)
end
set_option maxRecDepth 20000 in
set_option maxHeartbeats 4000000 in
theorem Meet_calls (xs : List Ct) (hx : ∀ c ∈ xs, CtW c) (ax : Option Addr) (cx ex : Nat) (name : ByteArray) (key : List UInt8) (hk : key.length = 32) (hn : name.size ≤ 9223372036854775807) (w : World) (hrx : Rd w ax ex (cellsC xs))
    (hlx : xs.length ≤ 9223372036854775807) (hcx : xs.length ≤ cx) (hcx2 : cx ≤ 9223372036854775807) :
    Calls Tryd.prog 10 #[.slice ax xs.length cx, .string name, .agg (dV key)] w (JoinPost w xs [⟨name, key, 1⟩]) := by
  have hcw : CtW ⟨name, key, 1⟩ := ⟨hk, hn, by show (-9223372036854775808 : Int) ≤ 1; omega, by show (1 : Int) ≤ 9223372036854775807; omega⟩
  have JC := fun (W : World) (hb : Below w.heap.size w W) => BJoin_calls xs [⟨name, key, 1⟩] hx (fun c hc => by rw [List.mem_singleton.1 hc]; exact hcw) ax (some ⟨W.heap.size, 0, none⟩) cx 1 ex 37 (W.alloc (.cells (cV ⟨name, key, 1⟩) 37)) ((hrx.below hb).alloc _) (by rw [cells_one, ← cV_list]; exact Rd.new W _ _) hlx (by simp) hcx (by simp) hcx2 (by omega)
  have hb1 : Below w.heap.size w (w.alloc (.cells (dV key) 24)) := (Below.refl _ _).alloc (Nat.le_refl _) _
  have J1 := JC _ hb1
  have hb2 : Below w.heap.size w ((w.alloc (.cells (dV key) 24)).alloc (.cells (cV ⟨name, key, 1⟩) 37)) := hb1.alloc hb1.size _
  have hsz : (w.alloc (.cells (dV key) 24)).heap.size = w.heap.size + 1 := World.size_alloc _ _
  have hg := heap_alloc_new w (.cells (dV key) 24)
  have HB2 := Lib.hid hb2
  have HG := Lib.hid hg
  have HCW := Lib.hid hcw
  clear JC hb1 hb2 hg hcw
  simp only [hsz] at J1
  go_enter Tryd.func10, Tryd.ntmps10
  go_wp2_with (first
    | (refine ld_new rfl (.tmp 5) rfl key hk _ (by rfl) ?_)
    | (refine bld_cont rfl (.tmp 9) (.tmp 10) 1 rfl name key hk (by rfl) (by rfl) ?_)
    | (refine bld_one rfl (.tmp 11) rfl ⟨name, key, 1⟩ HCW.out (by rfl) ?_))
  refine J1.mono ?_
  rintro e w5 ⟨hb5, hp⟩
  have hb6 : Below w.heap.size w w5 := HB2.out.trans (hb5.mono HB2.out.size)
  rcases hp with ⟨hj, a5, c5, e5, rfl, hc5, hc6, hr5⟩ | ⟨hj, rfl⟩
  · have HR := Lib.hid hr5
    clear hr5 J1
    go_wp2_with fail
    go_ret2
    exact ⟨hb6, .inl ⟨hj, a5, c5, e5, rfl, hc5, hc6, HR.out⟩⟩
  · clear J1
    go_wp2_with fail
    go_ret2
    exact ⟨hb6, .inr ⟨hj, rfl⟩⟩
set_option maxRecDepth 20000 in
set_option maxHeartbeats 4000000 in
theorem Trust_calls (xs : List Ct) (hx : ∀ c ∈ xs, CtW c) (ax : Option Addr) (cx ex : Nat) (name : ByteArray) (key : List UInt8) (hk : key.length = 32) (hn : name.size ≤ 9223372036854775807) (w : World) (hrx : Rd w ax ex (cellsC xs))
    (hlx : xs.length ≤ 9223372036854775807) (hcx : xs.length ≤ cx) (hcx2 : cx ≤ 9223372036854775807) :
    Calls Tryd.prog 11 #[.slice ax xs.length cx, .string name, .agg (dV key)] w (JoinPost w xs [⟨name, key, 3⟩]) := by
  have hcw : CtW ⟨name, key, 3⟩ := ⟨hk, hn, by show (-9223372036854775808 : Int) ≤ 3; omega, by show (3 : Int) ≤ 9223372036854775807; omega⟩
  have JC := fun (W : World) (hb : Below w.heap.size w W) => BJoin_calls xs [⟨name, key, 3⟩] hx (fun c hc => by rw [List.mem_singleton.1 hc]; exact hcw) ax (some ⟨W.heap.size, 0, none⟩) cx 1 ex 37 (W.alloc (.cells (cV ⟨name, key, 3⟩) 37)) ((hrx.below hb).alloc _) (by rw [cells_one, ← cV_list]; exact Rd.new W _ _) hlx (by simp) hcx (by simp) hcx2 (by omega)
  have hb1 : Below w.heap.size w (w.alloc (.cells (dV key) 24)) := (Below.refl _ _).alloc (Nat.le_refl _) _
  have J1 := JC _ hb1
  have hb2 : Below w.heap.size w ((w.alloc (.cells (dV key) 24)).alloc (.cells (cV ⟨name, key, 3⟩) 37)) := hb1.alloc hb1.size _
  have hsz : (w.alloc (.cells (dV key) 24)).heap.size = w.heap.size + 1 := World.size_alloc _ _
  have hg := heap_alloc_new w (.cells (dV key) 24)
  have HB2 := Lib.hid hb2
  have HG := Lib.hid hg
  have HCW := Lib.hid hcw
  clear JC hb1 hb2 hg hcw
  simp only [hsz] at J1
  go_enter Tryd.func11, Tryd.ntmps11
  go_wp2_with (first
    | (refine ld_new rfl (.tmp 5) rfl key hk _ (by rfl) ?_)
    | (refine bld_cont rfl (.tmp 9) (.tmp 10) 3 rfl name key hk (by rfl) (by rfl) ?_)
    | (refine bld_one rfl (.tmp 11) rfl ⟨name, key, 3⟩ HCW.out (by rfl) ?_))
  refine J1.mono ?_
  rintro e w5 ⟨hb5, hp⟩
  have hb6 : Below w.heap.size w w5 := HB2.out.trans (hb5.mono HB2.out.size)
  rcases hp with ⟨hj, a5, c5, e5, rfl, hc5, hc6, hr5⟩ | ⟨hj, rfl⟩
  · have HR := Lib.hid hr5
    clear hr5 J1
    go_wp2_with fail
    go_ret2
    exact ⟨hb6, .inl ⟨hj, a5, c5, e5, rfl, hc5, hc6, HR.out⟩⟩
  · clear J1
    go_wp2_with fail
    go_ret2
    exact ⟨hb6, .inr ⟨hj, rfl⟩⟩
end Go.Proofs.YtppjmonbmlbhpaaDoor
