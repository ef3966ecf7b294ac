/- Walk: share.Split tells the shares of a secret. -/
import Derived.Test.YtkioddmhjbaleaaDoorShareA
import Derived.Deep.RegionLaw
namespace Go.Proofs.YtkioddmhjbaleaaDoor
open Go.RowKit
set_option linter.unusedVariables false

def SplitPost (w : World) (secret : List UInt8) (n : Nat) (more : List (List UInt8)) (e : Ending) (w' : World) : Prop :=
  Below w.heap.size w w' ∧ (((∀ r ∈ more, r.length = secret.length) ∧ ∃ a cap vs, e = .returned (.tuple #[.slice a n cap, .nilIface]) ∧ n ≤ cap ∧ cap ≤ 9223372036854775807 ∧ Rd w' a 71 vs ∧ AreS (fun b e => e = 5 ∧ w.heap.size ≤ b) w' (splitOf secret n more) vs) ∨
    ((∃ r ∈ more, r.length ≠ secret.length) ∧ e = .returned (.tuple #[.slice none 0 0, .iface 41 (.int .i64 3)])))

theorem Value_at (xs : List UInt8) (x : UInt8) (y : Int) (hy : y = x.toNat) (a : Option Addr) (cap e n : Nat) (hn : n = xs.length) (w : World) (hr : Rd w a e (xs.map vB)) (hx : xs.length ≤ 2000000000000) :
    Calls Tryd.prog 59 #[.slice a n cap, .int .u8 y] w fun e W' => e = .returned (.int .u8 (Gf.val xs x).toNat) ∧ Below w.heap.size w W' := by
  subst hy hn; exact Value_calls xs x a cap e w hr (by omega)
theorem coefs_take (secret : List UInt8) (more : List (List UInt8)) (i q : Nat) (h : q < more.length) : (coefs secret more i).take (q + 1 + 1) = (coefs secret more i).take (q + 1) ++ [more[q].getD i 0] := by
  have hl : (coefs secret more i).length = more.length + 1 := by simp [coefs]
  rw [List.take_succ_eq_append_getElem (by omega)]
  simp [coefs]
theorem shareOf_take (secret : List UInt8) (more : List (List UInt8)) (x : UInt8) (m : Nat) (h : m < secret.length) : (shareOf secret more x).data.take (m + 1) = (shareOf secret more x).data.take m ++ [Gf.val (coefs secret more m) x] := by
  have hl : (shareOf secret more x).data.length = secret.length := by simp [shareOf]
  rw [List.take_succ_eq_append_getElem (by omega)]
  simp [shareOf]

set_option maxRecDepth 20000 in
set_option maxHeartbeats 4000000 in
theorem Split_calls (secret : List UInt8) (n : Nat) (more : List (List UInt8)) (a : Option Addr) (ca ea : Nat) (b : Option Addr) (cb eb : Nat) (vs : List Value) (w : World) (ha : Rd w a ea (secret.map vB)) (hb : Rd w b eb vs) (hv : AreB (fun _ _ => True) w more vs)
    (h1 : 1 ≤ n) (h2 : n ≤ 20) (h3 : secret.length ≤ 100) (h4 : more.length ≤ 20) :
    Calls Tryd.prog 31 #[.slice a secret.length ca, .int .i64 n, .slice b more.length cb] w (SplitPost w secret n more) := by
  have hvl : vs.length = more.length := hv.1
  have Hvl := Lib.hid hvl
  clear hvl
  have v1 : more.length ≤ vs.length := by rw [Hvl.out]; omega
  have Hv := Lib.hid hv
  have q1 : decide ((n : Int) < 1) = false := by rw [decide_eq_false]; omega
  have q2 : decide ((20 : Int) < (n : Int)) = false := by rw [decide_eq_false]; omega
  have q3 : decide ((100 : Int) < (secret.length : Int)) = false := by rw [decide_eq_false]; omega
  have q4 : decide ((20 : Int) < (more.length : Int)) = false := by rw [decide_eq_false]; omega
  go_enter Tryd.func31, Tryd.ntmps31
  go_wp2
  go_loop [36] (fun i => ∃ k : Nat, k ≤ more.length ∧ i = .int .i64 k ∧ ∀ r ∈ more.take k, r.length = secret.length) (fun i => more.length - (intOf i).toNat)
  case atStart => exact ⟨0, Nat.zero_le _, rfl, by simp⟩
  case round =>
    obtain ⟨k, hk, rfl, hlen⟩ := hrel
    have Hlen := Lib.hid hlen
    clear hlen
    by_cases hlt : k < more.length
    · obtain ⟨bb, ob, rfl, hbb, hcb⟩ := hb.cell (k := k) (by omega)
      obtain ⟨ak, ck, ek, hvk, hrk, _⟩ := Hv.out.2 k hlt (by omega)
      have hck : w.cell? ⟨bb, ob + k, none⟩ = some (.slice ak more[k].length ck) := by rw [← hvk]; exact hcb k (by omega)
      clear hcb hvk hrk
      by_cases hkl : more[k].length = secret.length
      · have hnew : ∀ r ∈ more.take (k + 1), r.length = secret.length := by
          rw [List.take_succ_eq_append_getElem hlt]
          intro r hr
          rcases List.mem_append.1 hr with hr | hr
          · exact Hlen.out r hr
          · rw [List.mem_singleton.1 hr]; exact hkl
        rw [hkl] at hck
        have t : ((secret.length : Int) != (secret.length : Int)) = false := by simp
        have Hnew := Lib.hid hnew
        clear hkl hnew
        go_wp2
        go_round
        case rel => exact ⟨k + 1, by omega, by go_num, Hnew.out⟩
        case measure => simp [intOf] <;> omega
      · have hx : ∃ r ∈ more, r.length ≠ secret.length := ⟨more[k], List.getElem_mem _, hkl⟩
        have Hx := Lib.hid hx
        have t : ((more[k].length : Int) != (secret.length : Int)) = true := by rw [bne_iff_ne]; omega
        clear hkl hx
        go_wp2
        go_ret2
        exact ⟨Below.refl _ _, .inr ⟨Hx.out, rfl⟩⟩
    · obtain rfl : k = more.length := by omega
      have hall : ∀ r ∈ more, r.length = secret.length := by have := Hlen.out; rwa [List.take_of_length_le (Nat.le_refl _)] at this
      have Hall := Lib.hid hall
      clear hall
      go_wp2
      go_loopw [10, 11] (fun v i wr => ∃ k : Nat, k ≤ n ∧ i = .int .i64 ((k : Int) + 1) ∧ (∃ cs, wr.ownsRow w.heap.size 71 2 v k cs ∧ AreS (fun b e => e = 5 ∧ w.heap.size ≤ b) wr ((splitOf secret n more).take k) cs) ∧ Below w.heap.size w wr) (fun _ i _ => n + 1 - (intOf i).toNat)
      case atStart => exact ⟨0, Nat.zero_le _, rfl, ⟨[], World.ownsRow_nil _ _ _ _, AreS.nil⟩, Below.refl _ _⟩
      case round =>
        obtain ⟨k, hk, rfl, ⟨cs, hown, hA⟩, hbl⟩ := hrel
        have hsz := hbl.size
        by_cases hkn : k < n
        · have tq : decide ((k : Int) + 1 ≤ (n : Int)) = true := by rw [decide_eq_true_eq]; omega
          have Hcf : IntKind.u8.wrap ((k : Int) + 1) = (k : Int) + 1 := by rw [IntKind.wrap_u8]; omega
          go_wp2
          obtain ⟨wo, rfl⟩ : ∃ wo : World, wo = wr := ⟨_, rfl⟩
          obtain ⟨X, hX⟩ : ∃ X : UInt8, X = UInt8.ofNat (k + 1) := ⟨_, rfl⟩
          have hXi : (k : Int) + 1 = X.toNat := by rw [hX]; simp; omega
          have HX := Lib.hid hX
          have HXi := Lib.hid hXi
          clear hX hXi
          obtain ⟨B, hB⟩ : ∃ B, B = wo.heap.size := ⟨_, rfl⟩
          rw [← hB]
          have HB := Lib.hid hB
          clear hB
          go_loopw [57] (fun i wr => ∃ (m : Nat) (v : Value), m ≤ secret.length ∧ i = .int .i64 m ∧ wr.heap[B]? = some (.cells #[.int .u8 ((k : Int) + 1), v] 71) ∧ wr.ownsRow (B + 1) 5 1 v m (((shareOf secret more X).data.take m).map vB) ∧ Below wo.heap.size wo wr) (fun i _ => secret.length - (intOf i).toNat)
          case atStart => exact ⟨0, _, Nat.zero_le _, rfl, by rw [HB.out]; exact heap_alloc_new _ _, World.ownsRow_nil _ _ _ _, (Below.refl _ _).alloc (Nat.le_refl _) _⟩
          case round =>
            obtain ⟨m, v, hm, rfl, hBc, hownv, hbo⟩ := hrel
            have hbsz := lt_of_heap hBc
            have cB0 : wr.cell? ⟨B, 0, none⟩ = some (.int .u8 ((k : Int) + 1)) := by rw [cell_of_row wr B 0 _ _ _ hBc]; rfl
            have cB1 : wr.cell? ⟨B, 1, none⟩ = some v := by rw [cell_of_row wr B 1 _ _ _ hBc]; rfl
            have hos := hbo.size
            by_cases hml : m < secret.length
            · obtain ⟨ba, oa, rfl, hba, hca⟩ := ha.bytes hml
              have cs0 : wr.cell? ⟨ba, oa + m, none⟩ = some (.int .u8 secret[m].toNat) := ((hbl.trans (hbo.mono hsz)).cell (p := ⟨ba, oa + m, none⟩) hba).trans (hca m hml)
              have hsm : secret.getD m 0 = secret[m] := by rw [List.getD_eq_getElem?_getD, List.getElem?_eq_getElem hml]; rfl
              have Hsm := Lib.hid hsm
              clear hsm hca
              generalize secret[m] = y at *
              go_wp2
              obtain ⟨wi, rfl⟩ : ∃ wi : World, wi = wr := ⟨_, rfl⟩
              go_loopw [15, 66] (fun v i wr => ∃ q : Nat, q ≤ more.length ∧ i = .int .i64 q ∧ wr.ownsRow wi.heap.size 5 1 v (q + 1) (((coefs secret more m).take (q + 1)).map vB) ∧ Below wi.heap.size wi wr) (fun _ i _ => more.length - (intOf i).toNat)
              case atStart => exact ⟨0, Nat.zero_le _, rfl, by have := own_new1 wi wi.heap.size 5 (.int .u8 y.toNat) (Nat.le_refl _); rw [← Hsm.out] at this ⊢; exact this, (Below.refl _ _).alloc (Nat.le_refl _) _⟩
              case round =>
                obtain ⟨q, hq, rfl, hownc, hbi⟩ := hrel
                have his := hbi.size
                by_cases hqm : q < more.length
                · obtain ⟨bb, ob, rfl, hbb, hcb⟩ := hb.cell (k := q) (by omega)
                  obtain ⟨ak, ck, ek, hvk, hrk, _⟩ := Hv.out.2 q hqm (by omega)
                  have hml2 : m < more[q].length := by rw [Hall.out _ (List.getElem_mem _)]; exact hml
                  have hbw : Below w.heap.size w wr := (hbl.trans (hbo.mono hsz)).trans (hbi.mono (by omega))
                  have hck : wr.cell? ⟨bb, ob + q, none⟩ = some (.slice ak secret.length ck) := by
                    have h9 := hcb q (by omega)
                    rw [hvk, Hall.out _ (List.getElem_mem _)] at h9
                    exact (hbw.cell (p := ⟨bb, ob + q, none⟩) hbb).trans h9
                  obtain ⟨bk, ok, rfl, hbk, hcx⟩ := hrk.bytes hml2
                  have hcz : wr.cell? ⟨bk, ok + m, none⟩ = some (.int .u8 (more[q][m]).toNat) := (hbw.cell (p := ⟨bk, ok + m, none⟩) hbk).trans (hcx m hml2)
                  have hct := coefs_take secret more m q hqm
                  have hmm : more[q].getD m 0 = more[q][m] := by rw [List.getD_eq_getElem?_getD, List.getElem?_eq_getElem hml2]; rfl
                  rw [hmm] at hct
                  have Hct := Lib.hid hct
                  clear hct hmm hcb hvk hcx
                  generalize more[q][m] = z at *
                  have j0 : (0 : Int) ≤ (q : Int) := by omega
                  have j1 : (q : Int) < (more.length : Int) := by omega
                  have j2 : (0 : Int) ≤ (m : Int) := by omega
                  have j3 : (m : Int) < (secret.length : Int) := by omega
                  go_wp2_with (at_builtin; refine app1 67 5 (.int .u8 0) 1 Tryd.underlying67 info_u8 rfl (by omega) rfl _ _ rfl wi.heap.size _ (q + 1) _ rfl (hownc.alloc _) ⟨wr.heap.size, 0, none⟩ 1 (.int .u8 z.toNat) rfl (by simp) rfl (by omega) (by simp; omega) _ rfl ?_; intro g cap w1 hown1 hgrow hat hlt1)
                  have hb1 : Below wi.heap.size wi w1 := below_grow (hbi.alloc his _) (hownc.alloc _) hgrow (by simp; omega)
                  clear hgrow hat hlt1 hownc
                  go_wp2
                  go_roundw
                  case rel => exact ⟨q + 1, by omega, by go_num, by rw [Hct.out, List.map_append]; exact hown1, hb1⟩
                  case measure => simp [intOf] <;> omega
                · obtain rfl : q = more.length := by omega
                  rw [List.take_of_length_le (by simp [coefs])] at hownc
                  obtain ⟨a15, cap15, rfl⟩ := own_slice hownc
                  obtain ⟨av, capv, rfl⟩ := own_slice hownv
                  have c0 : wr.cell? ⟨B, 0, none⟩ = some (.int .u8 ((k : Int) + 1)) := (hbi.cell (p := ⟨B, 0, none⟩) hbsz).trans cB0
                  have c1 : wr.cell? ⟨B, 1, none⟩ = some (.slice av m capv) := (hbi.cell (p := ⟨B, 1, none⟩) hbsz).trans cB1
                  have hv2 : wr.ownsRow (B + 1) 5 1 (.slice av m capv) m (((shareOf secret more X).data.take m).map vB) := own_below hownv hbi
                  have r15 : Rd wr a15 5 ((coefs secret more m).map vB) := Rd.of_own hownc
                  have VC := fun w h => Value_at (coefs secret more m) X ((k : Int) + 1) HXi.out a15 cap15 5 (more.length + 1) (by simp [coefs]) w h (by simp [coefs]; omega)
                  go_wp2
                  obtain ⟨W0, hW0⟩ : ∃ W0, W0 = wr := ⟨_, rfl⟩
                  have hBW : wr.heap[B]? = some (.cells #[.int .u8 ((k : Int) + 1), .slice av m capv] 71 (0, 0)) := (hbi.block B hbsz).trans hBc
                  have hboW : Below wo.heap.size wo wr := hbo.trans (hbi.mono hos)
                  have neB : some B ≠ (Value.slice av m capv).ownBlock := fun e => own_ne hv2 (Nat.lt_succ_self B) B e.symm rfl
                  have hst := shareOf_take secret more X m hml
                  have Hst := Lib.hid hst
                  have hBsz : B < wr.heap.size := lt_of_heap hBW
                  have hBo : wo.heap.size ≤ B := by rw [HB.out]; exact Nat.le_refl _
                  clear hst
                  rw [← hW0] at c0 c1 hv2 r15 hBW hboW hBsz ⊢
                  have HW0 := Lib.hid hW0
                  clear hW0
                  go_region_law
                    ((first
                      | ((refine stepApp1 67 5 (.int .u8 0) 1 Tryd.underlying67 info_u8 rfl (by omega) (by rfl) (.tmp 79) (.tmp 84) (by rfl) (B + 1) (.slice av m capv) m (((shareOf secret more X).data.take m).map vB) (by rfl) ((own_below hv2 hbV).alloc _) ⟨wV.heap.size, 0, none⟩ 1 (.int .u8 (Gf.val (coefs secret more m) X).toNat) (by rfl) (by simp) rfl (by omega) (by have hq := hbV.size; simp; omega) _ rfl ?_; intro gA capA wA hownA hgrowA hatA hltA; have hqV := hbV.size; have hBA := (hgrowA.block B (by simp; omega) neB).trans ((Below.heap_alloc wV (.cells #[.int .u8 (Gf.val (coefs secret more m) X).toNat] 5) B (by omega)).trans ((hbV.block B hBsz).trans hBW)); have hfA : wA.frozen? ⟨B, 1, none⟩ = false := by simp [World.frozen?, hBA]); have hcA : wA.cell? ⟨B, 1, none⟩ = some (.slice av m capv) := by rw [cell_of_row wA B 1 _ _ _ hBA]; rfl)
                      | (refine stepCall2 59 Tryd.func59 (by kernel_rfl) (by kernel_rfl) (.tmp 80) (.tmp 82) #[67, 5] (by rfl) (by rfl) (.slice a15 (more.length + 1) cap15) (.int .u8 ((k : Int) + 1)) (by rfl) (by rfl) (Post := fun r wV => r = .int .u8 (Gf.val (coefs secret more m) X).toNat ∧ Below W0.heap.size W0 wV) ((VC _ (by first | exact r15 | exact r15.drew)).mono fun e wV h => ⟨_, h.1, rfl, Below.trans (Below.refl _ _).drew h.2⟩) ?_; rintro r wV ⟨rfl, hbV⟩; have cV0 := (hbV.cell (p := ⟨B, 0, none⟩) hBsz).trans c0; have cV1 := (hbV.cell (p := ⟨B, 1, none⟩) hBsz).trans c1; have cA1 : (wV.alloc (.cells #[.int .u8 (Gf.val (coefs secret more m) X).toNat] 5)).cell? ⟨B, 1, none⟩ = some (.slice av m capv) := (World.cell?_alloc_some _ _ _ (by rw [cV1]; rfl)).trans cV1)))
                  all_goals
                    have hbA : Below wo.heap.size wo wA := below_grow ((hboW.trans (hbV.mono (by omega))).alloc (by omega) _) ((own_base (own_below hv2 hbV) (by omega)).alloc _) hgrowA (by simp; omega)
                    have hown3 := own_setOther hownA ⟨B, 1, none⟩ (.slice (some ⟨gA, 0, none⟩) (m + 1) capA) (own_ne hownA (Nat.lt_succ_self B))
                    have hb3 := hbA.setCell (p := ⟨B, 1, none⟩) hBo (.slice (some ⟨gA, 0, none⟩) (m + 1) capA)
                    have hB3 : (wA.setCell ⟨B, 1, none⟩ (.slice (some ⟨gA, 0, none⟩) (m + 1) capA)).heap[B]? = some (.cells #[.int .u8 ((k : Int) + 1), .slice (some ⟨gA, 0, none⟩) (m + 1) capA] 71 (0, 0)) := by simp [World.setCell, Array.getElem?_modify, hBA]
                    clear hgrowA hatA hltA hownA hbA hBA hfA hcA cA1 cV0 cV1 c0 c1 hv2 r15 hBW VC hboW hownc hownv
                    go_wp2
                    go_roundw
                  all_goals first
                    | exact ⟨m + 1, _, by omega, by go_num, hB3, by rw [Hst.out, List.map_append]; exact hown3, hb3⟩
                    | (simp [intOf] <;> omega)
            · obtain rfl : m = secret.length := by omega
              obtain ⟨av, capv, rfl⟩ := own_slice hownv
              rw [List.take_of_length_le (by simp [shareOf])] at hownv
              have hown2 := own_below hown hbo
              have hA2 := hA.below hbo
              go_wp2_with (at_builtin; refine appN 64 71 (.agg #[.int .u8 0, .slice none 0 0]) 2 32 Tryd.underlying64 info_share rfl (by omega) (by omega) rfl _ _ rfl w.heap.size _ k cs rfl (hown2.alloc _) wr.heap.size 1 [.int .u8 ((k : Int) + 1), .slice av secret.length capv] rfl rfl (two_cells (by simp) (by simp)) (by simp [Value.oneCell']) (by omega) (by simp; omega) _ rfl ?_; intro g cap w1 hown1 hgrow hat hlt1)
              have hb1 : Below w.heap.size w w1 := below_grow ((hbl.trans (hbo.mono hsz)).alloc (by omega) _) (hown2.alloc _) hgrow (by simp; omega)
              have hin : IsB (fun b e => e = 5 ∧ w.heap.size ≤ b) wr (shareOf secret more X).data (.slice av secret.length capv) := (IsB.of_own hownv).mono fun b e _ h => ⟨h.1, by have h8 := HB.out; have h9 := h.2; omega⟩
              have hA3 := ((hA2.snoc (s := shareOf secret more X) hin).alloc (.cells #[.int .u8 ((k : Int) + 1), .slice av secret.length capv] 71)).grown hgrow (own_other (hown2.alloc _) (fun g e' _ h => by rw [h.1]; decide))
              have hsx : vB (shareOf secret more X).at_ = .int .u8 ((k : Int) + 1) := by rw [HXi.out]; rfl
              have hst := splitOf_take secret n more k hkn
              rw [hsx] at hA3
              rw [← HX.out] at hst
              rw [← hst] at hA3
              clear hgrow hat hlt1 hin hst hsx hown2 hA2 hownv
              go_wp2
              go_roundw
              case rel => exact ⟨k + 1, by omega, by go_num, ⟨_, hown1, hA3⟩, hb1⟩
              case measure => simp [intOf] <;> omega
        · obtain rfl : k = n := by omega
          obtain ⟨a10, cap10, rfl⟩ := own_slice hown
          have hcap := own_cap hown
          rw [List.take_of_length_le (by rw [splitOf_length]; omega)] at hA
          go_wp2
          go_ret2
          exact ⟨hbl, .inl ⟨Hall.out, a10, cap10, cs, rfl, hcap.1, hcap.2, Rd.of_own hown, hA⟩⟩
end Go.Proofs.YtkioddmhjbaleaaDoor
/- Walk: share.Split at whatever comes; and the law's own small splitting. -/
namespace Go.Proofs.YtkioddmhjbaleaaDoor
open Go.RowKit
set_option linter.unusedVariables false

def SplitAny (w : World) (secret : List UInt8) (n : Int) (more : List (List UInt8)) (e : Ending) (w' : World) : Prop :=
  Below w.heap.size w w' ∧ ((splitF secret n more = 0 ∧ ∃ a cap vs, e = .returned (.tuple #[.slice a n.toNat cap, .nilIface]) ∧ n.toNat ≤ cap ∧ cap ≤ 9223372036854775807 ∧ Rd w' a 71 vs ∧ AreS (fun b e => e = 5 ∧ w.heap.size ≤ b) w' (splitOf secret n.toNat more) vs) ∨
    (splitF secret n more ≠ 0 ∧ e = .returned (.tuple #[.slice none 0 0, .iface 41 (.int .i64 (splitF secret n more))])))

set_option maxHeartbeats 2000000 in
theorem Split_any (secret : List UInt8) (n : Int) (more : List (List UInt8)) (a : Option Addr) (ca ea : Nat) (b : Option Addr) (cb eb : Nat) (vs : List Value) (w : World) (ha : Rd w a ea (secret.map vB)) (hb : Rd w b eb vs) (hv : AreB (fun _ _ => True) w more vs) (hl : secret.length ≤ 9223372036854775807) (hm : more.length ≤ 9223372036854775807) :
    Calls Tryd.prog 31 #[.slice a secret.length ca, .int .i64 n, .slice b more.length cb] w (SplitAny w secret n more) := by
  by_cases h1 : n < 1 ∨ 20 < n
  · have hf : splitF secret n more = 2 := by unfold splitF; rw [if_pos h1]
    have Hf := Lib.hid hf
    clear hf
    by_cases h2 : n < 1
    · go_enter Tryd.func31, Tryd.ntmps31
      go_wp2
      go_ret2
      exact ⟨Below.refl _ _, .inr ⟨by rw [Hf.out]; decide, by rw [Hf.out]; rfl⟩⟩
    · have h3 : 20 < n := by omega
      go_enter Tryd.func31, Tryd.ntmps31
      go_wp2
      go_ret2
      exact ⟨Below.refl _ _, .inr ⟨by rw [Hf.out]; decide, by rw [Hf.out]; rfl⟩⟩
  · obtain ⟨m, rfl⟩ : ∃ m : Nat, n = m := ⟨n.toNat, by omega⟩
    by_cases h2 : 100 < secret.length ∨ 20 < more.length
    · have hf : splitF secret m more = 4 := by unfold splitF; rw [if_neg h1, if_pos h2]
      have Hf := Lib.hid hf
      have q1 : decide ((m : Int) < 1) = false := by rw [decide_eq_false]; omega
      have q2 : decide ((20 : Int) < (m : Int)) = false := by rw [decide_eq_false]; omega
      clear hf
      by_cases h3 : 100 < secret.length
      · have q3 : decide ((100 : Int) < (secret.length : Int)) = true := by rw [decide_eq_true_eq]; omega
        clear h1 h2
        go_enter Tryd.func31, Tryd.ntmps31
        go_wp2
        go_ret2
        exact ⟨Below.refl _ _, .inr ⟨by rw [Hf.out]; decide, by rw [Hf.out]; rfl⟩⟩
      · have q3 : decide ((100 : Int) < (secret.length : Int)) = false := by rw [decide_eq_false]; omega
        have q4 : decide ((20 : Int) < (more.length : Int)) = true := by rw [decide_eq_true_eq]; omega
        clear h1 h2
        go_enter Tryd.func31, Tryd.ntmps31
        go_wp2
        go_ret2
        exact ⟨Below.refl _ _, .inr ⟨by rw [Hf.out]; decide, by rw [Hf.out]; rfl⟩⟩
    · refine (Split_calls secret m more a ca ea b cb eb vs w ha hb hv (by omega) (by omega) (by omega) (by omega)).mono ?_
      rintro e w' ⟨hbl, h⟩
      refine ⟨hbl, ?_⟩
      rcases h with ⟨hall, a, cap, us, he, h3, h4, h5, h6⟩ | ⟨hex, he⟩
      · left
        refine ⟨?_, a, cap, us, he, h3, h4, h5, h6⟩
        unfold splitF
        rw [if_neg h1, if_neg h2, if_neg]
        rintro ⟨r, hr1, hr2⟩
        exact hr2 (hall r hr1)
      · right
        have h3 : splitF secret m more = 3 := by unfold splitF; rw [if_neg h1, if_neg h2, if_pos hex]
        rw [h3]
        exact ⟨by decide, he⟩
/-- .. where nothing is wrong -/
theorem Split_ok {secret : List UInt8} {n : Int} {more : List (List UInt8)} (hf : splitF secret n more = 0) (a : Option Addr) (ca ea : Nat) (b : Option Addr) (cb eb : Nat) (vs : List Value) (w : World) (ha : Rd w a ea (secret.map vB)) (hb : Rd w b eb vs) (hv : AreB (fun _ _ => True) w more vs) (hl : secret.length ≤ 9223372036854775807) (hm : more.length ≤ 9223372036854775807) :
    Calls Tryd.prog 31 #[.slice a secret.length ca, .int .i64 n, .slice b more.length cb] w fun e w' => ∃ a cap vs, e = .returned (.tuple #[.slice a n.toNat cap, .nilIface]) ∧ Below w.heap.size w w' ∧ n.toNat ≤ cap ∧ cap ≤ 9223372036854775807 ∧ Rd w' a 71 vs ∧ AreS (fun b e => e = 5 ∧ w.heap.size ≤ b) w' (splitOf secret n.toNat more) vs := by
  refine (Split_any secret n more a ca ea b cb eb vs w ha hb hv hl hm).mono ?_
  rintro e w' ⟨hbl, ⟨_, a, cap, us, he, h1, h2⟩ | ⟨h, _⟩⟩
  · exact ⟨a, cap, us, he, hbl, h1, h2⟩
  · exact absurd hf h
/-- .. where something is -/
theorem Split_no {secret : List UInt8} {n : Int} {more : List (List UInt8)} (hf : splitF secret n more ≠ 0) (a : Option Addr) (ca ea : Nat) (b : Option Addr) (cb eb : Nat) (vs : List Value) (w : World) (ha : Rd w a ea (secret.map vB)) (hb : Rd w b eb vs) (hv : AreB (fun _ _ => True) w more vs) (hl : secret.length ≤ 9223372036854775807) (hm : more.length ≤ 9223372036854775807) :
    Calls Tryd.prog 31 #[.slice a secret.length ca, .int .i64 n, .slice b more.length cb] w fun e w' => e = .returned (.tuple #[.slice none 0 0, .iface 41 (.int .i64 (splitF secret n more))]) ∧ Below w.heap.size w w' := by
  refine (Split_any secret n more a ca ea b cb eb vs w ha hb hv hl hm).mono ?_
  rintro e w' ⟨hbl, ⟨h, _⟩ | ⟨_, he⟩⟩
  · exact absurd h hf
  · exact ⟨he, hbl⟩

theorem splitF_fact : splitF [9] 2 [[1]] = 0 := by
  unfold splitF
  rw [if_neg (by decide), if_neg (by decide), if_neg]
  rintro ⟨r, hr, h⟩
  rw [List.mem_singleton.1 hr] at h
  exact h rfl
theorem splitOf_fact : splitOf [9] 2 [[1]] = [⟨1, [8]⟩, ⟨2, [11]⟩] := by kernel_rfl
theorem Split_fact (w : World) : Calls Tryd.prog 31 #[.slice (some ⟨w.heap.size, 0, none⟩) 1 1, .int .i64 2, .slice (some ⟨w.heap.size + 2, 0, none⟩) 1 1] (((w.alloc (.cells #[.int .u8 9] 5)).alloc (.cells #[.int .u8 1] 5)).alloc (.cells #[.slice (some ⟨w.heap.size + 1, 0, none⟩) 1 1] 67)) fun e w' =>
    ∃ b o a1 cap, e = .returned (.tuple #[.slice (some ⟨b, o, none⟩) 2 cap, .nilIface]) ∧ Below w.heap.size w w' ∧ w'.cell? ⟨b, o + 2, none⟩ = some (.int .u8 2) ∧ (∃ c1 b1 o1, w'.cell? ⟨b, o + 2 + 1, none⟩ = some (.slice (some ⟨b1, o1, none⟩) 1 c1) ∧ w'.cell? ⟨b1, o1, none⟩ = some (.int .u8 11)) ∧ a1 = 0 := by
  have r1 := ((Rd.new w #[.int .u8 9] 5).alloc (.cells #[.int .u8 1] 5)).alloc (.cells #[.slice (some ⟨w.heap.size + 1, 0, none⟩) 1 1] 67)
  have r2 := (Rd.new (w.alloc (.cells #[.int .u8 9] 5)) #[.int .u8 1] 5).alloc (.cells #[.slice (some ⟨w.heap.size + 1, 0, none⟩) 1 1] 67)
  have r3 := Rd.new ((w.alloc (.cells #[.int .u8 9] 5)).alloc (.cells #[.int .u8 1] 5)) #[.slice (some ⟨w.heap.size + 1, 0, none⟩) 1 1] 67
  simp only [World.size_alloc] at r2 r3
  have hA : AreB (fun _ _ => True) (((w.alloc (.cells #[.int .u8 9] 5)).alloc (.cells #[.int .u8 1] 5)).alloc (.cells #[.slice (some ⟨w.heap.size + 1, 0, none⟩) 1 1] 67)) [[1]] [.slice (some ⟨w.heap.size + 1, 0, none⟩) 1 1] :=
    ⟨rfl, fun i h h' => by
      obtain rfl : i = 0 := by simpa using h
      exact ⟨_, 1, _, rfl, r2, fun _ _ _ => trivial, by simp⟩⟩
  refine (Split_ok splitF_fact _ 1 _ _ 1 _ _ _ r1 r3 hA (by simp) (by simp)).mono ?_
  rintro e w' ⟨a, cap, vs, he, hb, _, _, h1, h2⟩
  have e2 : (2 : Int).toNat = 2 := rfl
  rw [e2] at he h2
  rw [splitOf_fact] at h2
  obtain ⟨b, o, a', c', e', rfl, _, hx0, hx1, hr, _, _⟩ := AreS.cells h1 h2 (k := 1) (by simp)
  obtain ⟨b1, o1, rfl, _, hcc⟩ := hr.bytes (k := 0) (by simp)
  refine ⟨b, o, 0, cap, he, ((((Below.refl _ w).alloc (Nat.le_refl _) _).alloc (by simp) _).alloc (by simp; omega) _).trans (hb.mono (by simp; omega)), hx0, ⟨c', b1, o1, hx1, hcc 0 (by simp)⟩, rfl⟩
end Go.Proofs.YtkioddmhjbaleaaDoor
/- Walk: share.Join tells the secret of shares. -/
namespace Go.Proofs.YtkioddmhjbaleaaDoor
open Go.RowKit
set_option linter.unusedVariables false

/-- what is told of shares -/
def joinOf (ss : List Sh) : List UInt8 := thrus (ss.map (·.at_)) (ss.map (·.data)) 0

def JoinPost (w : World) (ss : List Sh) (k : Nat) (e : Ending) (w' : World) : Prop :=
  Below w.heap.size w w' ∧ ((sharesF 1 255 ss k = 0 ∧ ∃ a cap, e = .returned (.tuple #[.slice a (joinOf ss).length cap, .nilIface]) ∧ w'.ownsRow w.heap.size 5 1 (.slice a (joinOf ss).length cap) (joinOf ss).length ((joinOf ss).map vB)) ∨
    (sharesF 1 255 ss k ≠ 0 ∧ e = .returned (.tuple #[.slice none 0 0, .iface 41 (.int .i64 (sharesF 1 255 ss k))])))

set_option maxHeartbeats 4000000 in
theorem Join_calls (ss : List Sh) (k L : Nat) (a : Option Addr) (ca ea : Nat) (vs : List Value) (w : World) (hr : Rd w a ea vs) (hs : AreS (fun _ _ => True) w ss vs) (hc : k ≤ ca) (hc2 : ca ≤ 9223372036854775807)
    (h1 : 1 ≤ k) (h2 : k ≤ 20) (h3 : k ≤ ss.length) (h3' : ss.length ≤ k) (hL0 : (ss.headD default).data.length = L) (hL : L ≤ 140737488355328) :
    Calls Tryd.prog 32 #[.slice a k ca] w (JoinPost w ss k) := by
  obtain ⟨b, o, a0, c0, e0, rfl, hb, hx0, hx1, _, _, _⟩ := AreS.cells hr hs (k := 0) (by omega)
  have h0L : (ss[0]'(by omega)).data.length = L := by rw [← hL0]; cases ss with | nil => simp at h3; omega | cons r rs => rfl
  rw [h0L] at hx1
  simp only [Nat.mul_zero, Nat.add_zero, Nat.zero_add] at hx1 hx0
  have Hs := Lib.hid hs
  have HL0 := Lib.hid hL0
  clear h0L hx0
  have i1 : (0 : Int) < (k : Int) := by omega
  have i3 : 0 < k := by omega
  have q1 : decide ((k : Int) < 1) = false := by rw [decide_eq_false]; omega
  have q2 : decide ((20 : Int) < (k : Int)) = false := by rw [decide_eq_false]; omega
  go_enter Tryd.func32, Tryd.ntmps32
  go_wp2
  go_loopw [4, 5, 19] (fun v6 v7 i wr => ∃ m : Nat, m ≤ k ∧ i = .int .i64 m ∧ wr.ownsRow w.heap.size 5 1 v6 m (((ss.take m).map (·.at_)).map vB) ∧ wr.ownsRow w.heap.size 67 1 v7 m ((List.range m).map fun i => vs.getD (2 * i + 1) undef) ∧ Below w.heap.size w wr ∧ sharesF 1 255 ss m = 0) (fun _ _ i _ => k - (intOf i).toNat)
  case atStart => exact ⟨0, Nat.zero_le _, rfl, World.ownsRow_nil _ _ _ _, World.ownsRow_nil _ _ _ _, Below.refl _ _, rfl⟩
  case round =>
    obtain ⟨m, hm, rfl, hown6, hown7, hbl, hf⟩ := hrel
    have Hf := Lib.hid hf
    clear hf
    have hsz := hbl.size
    by_cases hlt : m < k
    · obtain ⟨b', o', am, cm, em, hab, _, hm0, hm1, hrm, _, hml⟩ := AreS.cells hr Hs.out (k := m) (by omega)
      simp only [Option.some.injEq, Addr.mk.injEq, and_true] at hab
      obtain ⟨rfl, rfl⟩ := hab
      have e2 : o + 2 * m = o + m * 2 := by omega
      have e3 : o + (2 * m + 1) = o + m * 2 + 1 := by omega
      rw [e2] at hm0
      rw [e3] at hm1
      have cx0 : wr.cell? ⟨b, o + m * 2, none⟩ = some (.int .u8 ((ss[m]'(by omega)).at_.toNat : Int)) := (hbl.cell (p := ⟨b, o + m * 2, none⟩) hb).trans hm0
      have cx1 : wr.cell? ⟨b, o + m * 2 + 1, none⟩ = some (.slice am (ss[m]'(by omega)).data.length cm) := (hbl.cell (p := ⟨b, o + m * 2 + 1, none⟩) hb).trans hm1
      have cy1 : wr.cell? ⟨b, o + 1, none⟩ = some (.slice a0 L c0) := (hbl.cell (p := ⟨b, o + 1, none⟩) hb).trans hx1
      have hvm : vs.getD (2 * m + 1) undef = .slice am (ss[m]'(by omega)).data.length cm := by
        have l2 : 2 * m + 1 < vs.length := by rw [Hs.out.1]; omega
        obtain ⟨b'', o'', hab', _, hcc⟩ := hr.cell l2
        simp only [Option.some.injEq, Addr.mk.injEq, and_true] at hab'
        obtain ⟨rfl, rfl⟩ := hab'
        have h9 := hcc _ l2
        rw [e3, hm1] at h9
        rw [List.getD_eq_getElem?_getD, List.getElem?_eq_getElem l2]
        exact (Option.some.inj h9).symm
      have hget : ss.getD m default = ss[m]'(by omega) := by rw [List.getD_eq_getElem?_getD, List.getElem?_eq_getElem (by omega)]; rfl
      have Hvm := Lib.hid hvm
      have Hget := Lib.hid hget
      clear hm0 hm1 e2 e3 hvm hget
      obtain ⟨s, hs'⟩ : ∃ s, s = ss[m]'(by omega) := ⟨_, rfl⟩
      rw [← hs'] at cx0 cx1 Hvm Hget
      have HS := Lib.hid hs'
      clear hs' hrm
      obtain ⟨a6, cap6, rfl⟩ := own_slice hown6
      obtain ⟨a7, cap7, rfl⟩ := own_slice hown7
      have CC := fun w h => Contains_at ((ss.take m).map (·.at_)) s.at_ m (by simp; omega) a6 cap6 5 w h (by simp; omega)
      have cz1 : (wr.alloc (.cells #[.int .u8 s.at_.toNat, .slice am s.data.length cm] 71)).cell? ⟨b, o + 1, none⟩ = some (.slice a0 L c0) := (World.cell?_alloc_some _ _ _ (by rw [cy1]; rfl)).trans cy1
      obtain ⟨twice, ht⟩ : ∃ t, t = decide (s.at_ ∈ (ss.take m).map (·.at_)) := ⟨_, rfl⟩
      rw [← ht] at CC
      have Ht := Lib.hid ht
      clear ht
      have hb1 : Below w.heap.size w (wr.alloc (.cells #[.int .u8 s.at_.toNat, .slice am s.data.length cm] 71)) := hbl.alloc hsz _
      have stop : ∀ c : Int, c ≠ 0 → faultAt 1 255 ss m = c → sharesF 1 255 ss k = c := by
        intro c hc0 hfa
        have e1 : sharesF 1 255 ss (m + 1) = c := by simp only [sharesF]; rw [if_neg (by simpa using Hf.out), hfa]
        rw [sharesF_stop (n := m + 1) (by rw [e1]; exact hc0) (by omega), e1]
      have Stop := Lib.hid stop
      clear stop
      by_cases g1 : s.at_.toNat = 0
      · have t1 : ((s.at_.toNat : Int) == 0) = true := by rw [beq_iff_eq]; omega
        have hk := Stop.out 2 (by decide) (by unfold faultAt; rw [Hget.out, if_pos (by omega)])
        have Hk := Lib.hid hk
        clear hk
        go_wp2
        go_ret2
        exact ⟨by simpa [g1] using hb1, .inr ⟨by rw [Hk.out]; decide, by rw [Hk.out]; rfl⟩⟩
      · have t1 : ((s.at_.toNat : Int) == 0) = false := by rw [beq_eq_false_iff_ne]; omega
        have g0 : s.at_.toNat < 256 := UInt8.toNat_lt _
        cases twice with
        | true =>
          have hk := Stop.out 7 (by decide) (by unfold faultAt; rw [Hget.out, if_neg (by omega), if_pos (of_decide_eq_true Ht.out.symm)])
          have Hk := Lib.hid hk
          clear hk
          go_wp2_with fail
          refine (CC _ ((Rd.of_own hown6).alloc _)).mono ?_; rintro e w1 ⟨rfl, rfl⟩
          go_wp2_with fail
          go_ret2
          exact ⟨hb1, .inr ⟨by rw [Hk.out]; decide, by rw [Hk.out]; rfl⟩⟩
        | false =>
          by_cases g3 : s.data.length = L
          · have t3 : ((s.data.length : Int) != (L : Int)) = false := by rw [bne_eq_false_iff_eq]; omega
            have hfa : sharesF 1 255 ss (m + 1) = 0 := by
              simp only [sharesF]; rw [if_neg (by simpa using Hf.out)]
              unfold faultAt
              rw [Hget.out, if_neg (by omega), if_neg (of_decide_eq_false Ht.out.symm), if_neg (by rw [HL0.out]; simpa using g3)]
            have Hfa := Lib.hid hfa
            have G3 := Lib.hid g3
            clear hfa g3
            go_wp2_with fail
            refine (CC _ ((Rd.of_own hown6).alloc _)).mono ?_; rintro e w1 ⟨rfl, rfl⟩
            clear CC
            go_wp2_with fail
            go_quiet (fail)
            go_wp2
            obtain ⟨W0, hW0⟩ : ∃ W0, (wr.alloc (.cells #[.int .u8 s.at_.toNat, .slice am s.data.length cm] 71)).drewN nq = W0 := ⟨_, rfl⟩
            obtain ⟨B, hB⟩ : ∃ B, wr.heap.size = B := ⟨_, rfl⟩
            have hWs : W0.heap.size = B + 1 := by rw [← hW0, ← hB]; simp
            have hbW : Below w.heap.size w W0 := by rw [← hW0]; exact below_drewN hb1 _
            have own6 : W0.ownsRow w.heap.size 5 1 (.slice a6 m cap6) m (((ss.take m).map (·.at_)).map vB) := by rw [← hW0]; exact own_drewN (hown6.alloc _) _
            have own7 : W0.ownsRow w.heap.size 67 1 (.slice a7 m cap7) m ((List.range m).map fun i => vs.getD (2 * i + 1) undef) := by rw [← hW0]; exact own_drewN (hown7.alloc _) _
            have bx0 : W0.cell? ⟨B, 0, none⟩ = some (.int .u8 s.at_.toNat) := by rw [← hW0, ← hB]; simp
            have bx1 : W0.cell? ⟨B, 1, none⟩ = some (.slice am s.data.length cm) := by rw [← hW0, ← hB]; simp
            have ne6 : some B ≠ (Value.slice a6 m cap6).ownBlock := fun e => by have := (hown6.lt B e.symm).2; omega
            have ne7 : some B ≠ (Value.slice a7 m cap7).ownBlock := fun e => by have := (hown7.lt B e.symm).2; omega
            have hwB : w.heap.size ≤ B := by omega
            rw [hB, hW0]
            have HWs := Lib.hid hWs
            clear hWs hW0 hB cz1 cy1 cx0 cx1 hown6 hown7 hb1 hbl
            go_region_held3 (fun w' => w'.cell? ⟨B, 0, none⟩ = some (.int .u8 s.at_.toNat) ∧ w'.cell? ⟨B, 1, none⟩ = some (.slice am s.data.length cm)) (first | go_keep | (refine ⟨?_, ?_⟩ <;> (rw [hgrowA.cell_far _ (by simp; have := HWs.out; omega) ne6]; simp [*])) | (refine ⟨?_, ?_⟩ <;> (rw [hgrowR.cell_far _ (by have h := hgrowA.size; simp at h; simp; have := HWs.out; omega) ne7]; simp [*])))
              ((first
                | (refine stepApp1 67 5 (.int .u8 0) 1 Tryd.underlying67 info_u8 rfl (by omega) (by rfl) (.tmp 45) (.tmp 48) (by rfl) w.heap.size (.slice a6 m cap6) m (((ss.take m).map (·.at_)).map vB) (by rfl) (by first | exact (own_drew own6).alloc _ | exact ((own_drew own6).alloc _).alloc _) ⟨_, 0, none⟩ 1 (.int .u8 s.at_.toNat) (by rfl) (by simp) rfl (by omega) (by simp; have := HWs.out; omega) _ rfl ?_; intro gA capA wA hownA hgrowA hatA hltA)
                | (refine stepApp1 63 67 (.slice none 0 0) 24 Tryd.underlying63 info_bs rfl (by omega) (by rfl) (.tmp 50) (.tmp 53) (by rfl) w.heap.size (.slice a7 m cap7) m _ (by rfl) (by first | exact (own_kept_other ((own_drew own7).alloc _) ((own_drew own6).alloc _) (by decide) hgrowA).alloc _ | exact own_kept_other (((own_drew own7).alloc _).alloc _) (((own_drew own6).alloc _).alloc _) (by decide) hgrowA) ⟨_, 0, none⟩ 1 (.slice am s.data.length cm) (by rfl) (by first | (simp; done) | (rw [hgrowA.cell_far _ (by simp <;> omega) (fun e => by have h := (own6.lt _ e.symm).2; simp at h <;> omega)]; simp)) rfl (by omega) (by have h := hgrowA.size; simp at h; simp; have := HWs.out; omega) _ rfl ?_; intro gR capR wR hownR hgrowR hatR hltR)))
            all_goals
              have z0 : w.heap.size ≤ W0.heap.size := hbW.size
              have oA : wR.ownsRow w.heap.size 5 1 (.slice (some ⟨gA, 0, none⟩) (m + 1) capA) (m + 1) (((ss.take m).map (·.at_)).map vB ++ [.int .u8 s.at_.toNat]) := by
                first
                  | exact own_kept_other (hownA.alloc _) ((own_kept_other ((own_drew own7).alloc _) ((own_drew own6).alloc _) (by decide) hgrowA).alloc _) (by decide) hgrowR
                  | exact own_kept_other hownA (own_kept_other (((own_drew own7).alloc _).alloc _) (((own_drew own6).alloc _).alloc _) (by decide) hgrowA) (by decide) hgrowR
              have hbR : Below w.heap.size w wR := by
                first
                  | exact below_grow ((below_grow (hbW.drew.alloc (by simp; omega) _) ((own_drew own6).alloc _) hgrowA (by simp; omega)).alloc (by have h := hgrowA.size; simp at h; omega) _) ((own_kept_other ((own_drew own7).alloc _) ((own_drew own6).alloc _) (by decide) hgrowA).alloc _) hgrowR (by have h := hgrowA.size; simp at h; simp; omega)
                  | exact below_grow (below_grow ((hbW.drew.alloc (by simp; omega) _).alloc (by simp; omega) _) (((own_drew own6).alloc _).alloc _) hgrowA (by simp; omega)) (own_kept_other (((own_drew own7).alloc _).alloc _) (((own_drew own6).alloc _).alloc _) (by decide) hgrowA) hgrowR (by have h := hgrowA.size; simp at h; omega)
              clear hgrowA hgrowR hatA hatR hltA hltR own6 own7 hownA bx0 bx1 ne6 ne7 hbW
              go_wp2
              go_roundw
            all_goals first
              | exact ⟨m + 1, by omega, by go_num, by rw [List.take_succ_eq_append_getElem (by omega), List.map_append, List.map_append]; rw [HS.out] at oA; exact oA, by rw [List.range_succ, List.map_append]; rw [← Hvm.out] at hownR; exact hownR, hbR, Hfa.out⟩
              | (simp [intOf] <;> omega)
          · have t3 : ((s.data.length : Int) != (L : Int)) = true := by rw [bne_iff_ne]; omega
            have hk := Stop.out 3 (by decide) (by unfold faultAt; rw [Hget.out, if_neg (by omega), if_neg (of_decide_eq_false Ht.out.symm), if_pos (by rw [HL0.out]; exact g3)])
            have Hk := Lib.hid hk
            clear hk g3
            go_wp2_with fail
            refine (CC _ ((Rd.of_own hown6).alloc _)).mono ?_; rintro e w1 ⟨rfl, rfl⟩
            clear CC
            go_wp2_with fail
            go_quiet (fail)
            go_wp2
            go_ret2
            exact ⟨below_drewN hb1 _, .inr ⟨by rw [Hk.out]; decide, by rw [Hk.out]; rfl⟩⟩
    · obtain rfl : m = k := by omega
      obtain ⟨a6, cap6, rfl⟩ := own_slice hown6
      obtain ⟨a7, cap7, rfl⟩ := own_slice hown7
      have r6 : Rd wr a6 5 (((ss.take m).map (·.at_)).map vB) := Rd.of_own hown6
      have r7 : Rd wr a7 67 ((List.range m).map fun i => vs.getD (2 * i + 1) undef) := Rd.of_own hown7
      have hD : AreB (fun _ _ => True) w ((ss.take m).map (·.data)) ((List.range m).map fun i => vs.getD (2 * i + 1) undef) := by
        have h := (AreS.datas (Hs.out)).take m
        rw [← List.map_take, ← List.map_take, List.take_range] at h
        rw [Nat.min_eq_left h3] at h
        exact h
      have hall : ∀ r ∈ (ss.take m).map (·.data), r.length = L := by
        intro r hr'
        obtain ⟨s, hs1, rfl⟩ := List.mem_map.1 hr'
        obtain ⟨i, hi, rfl⟩ := List.mem_iff_getElem.1 hs1
        have hi' : i < m := by simp at hi; omega
        have hfa := sharesF_zero Hf.out i hi'
        unfold faultAt at hfa
        rw [HL0.out] at hfa
        have hg : ss.getD i default = (ss.take m)[i] := by rw [List.getD_eq_getElem?_getD, List.getElem?_eq_getElem (by omega)]; simp
        rw [hg] at hfa
        split at hfa
        · cases hfa
        · split at hfa
          · cases hfa
          · split at hfa
            · cases hfa
            · rename_i h; omega
      have hln : ((ss.take m).map (·.data)).length = m := by simp; omega
      have hla : ((ss.take m).map (·.at_)).length = m := by simp; omega
      have hh : (((ss.take m).map (·.data)).headD []).length = L := by
        cases hc : (ss.take m).map (·.data) with
        | nil => rw [hc] at hln; simp at hln; omega
        | cons r rs => exact hall r (by rw [hc]; exact List.mem_cons_self ..)
      have Hh := Lib.hid hh
      have Hall := Lib.hid hall
      have Hln := Lib.hid hln
      have Hla := Lib.hid hla
      clear hh hall hln hla hown6 hown7
      have TC := Through_at2 ((ss.take m).map (·.at_)) ((ss.take m).map (·.data)) 0 0 (by decide) a6 a7 cap6 5 cap7 67 L m m _ wr r6 r7 (hD.below hbl) Hla.out.symm Hln.out.symm (by rw [Hln.out]; omega) (by rw [Hla.out, Hln.out]) (by rw [Hln.out]; omega) hL Hall.out
      have hj : thrus ((ss.take m).map (·.at_)) ((ss.take m).map (·.data)) 0 = joinOf ss := by unfold joinOf; rw [List.take_of_length_le (by omega)]
      rw [hj] at TC
      clear hj
      go_wp2_with fail
      refine TC.mono ?_; rintro e w2 ⟨a2, cap2, rfl, hown2, hbl2⟩
      clear TC
      go_wp2
      go_ret2
      exact ⟨hbl.trans (hbl2.mono hsz), .inl ⟨Hf.out, a2, cap2, rfl, own_base hown2 hsz⟩⟩
end Go.Proofs.YtkioddmhjbaleaaDoor
/- SHAMIR: so many are enough. No walk here. -/
namespace Go.Proofs.YtkioddmhjbaleaaDoor
open Go.RowKit
def pickS (all : List Sh) (js : List Nat) : List Sh := js.map fun j => all.getD j default
def cellsS (xvs : List Value) (which : List Int) (k : Nat) : List Value := (List.range k).flatMap fun i => [xvs.getD (2 * (which.getD i 0).toNat) undef, xvs.getD (2 * (which.getD i 0).toNat + 1) undef]
theorem cellsS_succ (xvs : List Value) (which : List Int) (k : Nat) : cellsS xvs which (k + 1) = cellsS xvs which k ++ [xvs.getD (2 * (which.getD k 0).toNat) undef, xvs.getD (2 * (which.getD k 0).toNat + 1) undef] := by
  simp [cellsS, List.range_succ]
theorem AreS.getD {E : Nat → TypeId → Prop} {w : World} {ss : List Sh} {vs : List Value} (h : AreS E w ss vs) {i : Nat} (hi : i < ss.length) : vs.getD (2 * i) undef = vB (ss.getD i default).at_ ∧ IsB E w (ss.getD i default).data (vs.getD (2 * i + 1) undef) := by
  have l1 : 2 * i < vs.length := by rw [h.1]; omega
  have l2 : 2 * i + 1 < vs.length := by rw [h.1]; omega
  have := h.2 i hi l1 l2
  rw [List.getD_eq_getElem?_getD, List.getElem?_eq_getElem l1, List.getD_eq_getElem?_getD, List.getElem?_eq_getElem hi, List.getD_eq_getElem?_getD, List.getElem?_eq_getElem l2]
  exact this
theorem cellsS_are {w : World} {all : List Sh} {xvs : List Value} {which : List Int} {n : Nat} (hA : AreS (fun _ _ => True) w all xvs) (hn : all.length = n) : ∀ k, (∀ i, i < k → 0 ≤ which.getD i 0 ∧ which.getD i 0 < n) → k ≤ which.length →
    AreS (fun _ _ => True) w (pickS all ((which.take k).map Int.toNat)) (cellsS xvs which k) := by
  intro k
  induction k with
  | zero => intro _ _; exact AreS.nil
  | succ k ih =>
    intro h hk
    have h1 := h k (by omega)
    have e1 : which.getD k 0 = which[k]'(by omega) := by rw [List.getD_eq_getElem?_getD, List.getElem?_eq_getElem (by omega)]; rfl
    have e2 : pickS all ((which.take (k + 1)).map Int.toNat) = pickS all ((which.take k).map Int.toNat) ++ [all.getD (which.getD k 0).toNat default] := by
      rw [List.take_succ_eq_append_getElem (by omega), e1, List.map_append]
      unfold pickS
      rw [List.map_append]; rfl
    rw [e2, cellsS_succ]
    have hz : (which.getD k 0).toNat < all.length := by omega
    obtain ⟨g1, g2⟩ := hA.getD hz
    rw [g1]
    exact (ih (fun i hi => h i (by omega)) (by omega)).snoc g2

theorem splitOf_getD (secret : List UInt8) (n : Nat) (more : List (List UInt8)) (j : Nat) (h : j < n) : (splitOf secret n more).getD j default = shareOf secret more (UInt8.ofNat (j + 1)) := by
  rw [List.getD_eq_getElem?_getD, List.getElem?_eq_getElem (by rw [splitOf_length]; exact h)]
  simp [splitOf]
theorem shareOf_getD (secret : List UInt8) (more : List (List UInt8)) (x : UInt8) (k : Nat) (h : k < secret.length) : (shareOf secret more x).data.getD k 0 = Gf.val (coefs secret more k) x := by
  rw [List.getD_eq_getElem?_getD, List.getElem?_eq_getElem (by simp [shareOf]; exact h)]
  simp [shareOf]
theorem shareOf_length (secret : List UInt8) (more : List (List UInt8)) (x : UInt8) : (shareOf secret more x).data.length = secret.length := by simp [shareOf]
theorem coefs_length (secret : List UInt8) (more : List (List UInt8)) (i : Nat) : (coefs secret more i).length = more.length + 1 := by simp [coefs]
/-- the shares at some places tell the secret again -/
theorem join_at (secret : List UInt8) (more : List (List UInt8)) (at_ : List UInt8) (hnd : at_.Nodup) (hl : more.length + 1 ≤ at_.length) : joinOf (at_.map (shareOf secret more)) = secret := by
  have e1 : (at_.map (shareOf secret more)).map (·.at_) = at_ := by simp [Function.comp_def, shareOf]
  have hh : (((at_.map (shareOf secret more)).map (·.data)).headD []).length = secret.length := by
    cases at_ with
    | nil => simp at hl
    | cons x xs => exact shareOf_length _ _ _
  unfold joinOf
  rw [e1]
  refine list_ext_getD (d := 0) (by rw [thrus_length, hh]) fun k hk => ?_
  rw [thrus_length, hh] at hk
  rw [thrus_getD _ _ _ _ (by rw [hh]; exact hk)]
  have hcol : col ((at_.map (shareOf secret more)).map (·.data)) k = at_.map (Gf.val (coefs secret more k)) := by
    unfold col
    rw [List.map_map, List.map_map]
    exact List.map_congr_left fun x _ => shareOf_getD _ _ _ _ hk
  have hp : Gf.IsPoly (more.length + 1) (Gf.val (coefs secret more k)) := by
    have := Gf.IsPoly.val (coefs secret more k)
    rwa [coefs_length] at this
  rw [hcol, Gf.lagrange hp _ hnd hl, Gf.val_at_zero]
  rfl
theorem pick_at (secret : List UInt8) (n : Nat) (more : List (List UInt8)) (js : List Nat) (hlt : ∀ j ∈ js, j < n) : pickS (splitOf secret n more) js = (js.map fun j => UInt8.ofNat (j + 1)).map (shareOf secret more) := by
  unfold pickS
  rw [List.map_map]
  exact List.map_congr_left fun j hj => splitOf_getD _ _ _ _ (hlt j hj)
theorem succ_nodup {l : List Nat} (h : l.Nodup) (hl : ∀ i ∈ l, i < 255) : (l.map fun j => UInt8.ofNat (j + 1)).Nodup := by
  induction l with
  | nil => simp
  | cons a l ih =>
    rw [List.nodup_cons] at h
    rw [List.map_cons, List.nodup_cons]
    refine ⟨fun hm => ?_, ih h.2 (fun i hi => hl i (List.mem_cons_of_mem _ hi))⟩
    obtain ⟨b, hb, he⟩ := List.mem_map.1 hm
    have h1 := hl b (List.mem_cons_of_mem _ hb)
    have h2 := hl a (List.mem_cons_self ..)
    have := ofNat_inj (by omega) (by omega) he
    have : b = a := by omega
    exact h.1 (this ▸ hb)
/-- nothing is wrong with such shares -/
theorem at_fault (secret : List UInt8) (more : List (List UInt8)) (at_ : List UInt8) (hnd : at_.Nodup) (h0 : ∀ x ∈ at_, x.toNat ≠ 0) : ∀ m, m ≤ at_.length → sharesF 1 255 (at_.map (shareOf secret more)) m = 0 := by
  intro m
  induction m with
  | zero => intro _; rfl
  | succ m ih =>
    intro hm
    simp only [sharesF]
    rw [if_neg (by simpa using ih (by omega))]
    have hg : (at_.map (shareOf secret more)).getD m default = shareOf secret more at_[m] := by
      rw [List.getD_eq_getElem?_getD, List.getElem?_map, List.getElem?_eq_getElem (by omega)]; rfl
    unfold faultAt
    rw [hg]
    have h1 := h0 _ (List.getElem_mem (show m < at_.length by omega))
    have h2 : at_[m].toNat < 256 := UInt8.toNat_lt _
    have h3 : (shareOf secret more at_[m]).at_ = at_[m] := rfl
    rw [if_neg (by rw [h3]; omega), if_neg, if_neg]
    · simp only [ne_eq, Decidable.not_not, shareOf_length]
      cases at_ with
      | nil => simp at hm
      | cons x xs => exact (shareOf_length _ _ _).symm
    · have e1 : ((at_.map (shareOf secret more)).take m).map (·.at_) = at_.take m := by
        rw [← List.map_take, List.map_map]; simp [Function.comp_def, shareOf]
      rw [e1, h3]
      intro hmem
      obtain ⟨i, hi, he⟩ := List.mem_iff_getElem.1 hmem
      have hi' : i < m := by simp at hi; omega
      rw [List.getElem_take] at he
      have := (List.getElem_inj hnd).1 he
      omega
end Go.Proofs.YtkioddmhjbaleaaDoor
