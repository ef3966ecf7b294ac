/- Walk: share.Split tells the shares of a secret. -/
import Derived.Test.YtalbmcidlalicaaDoorSplitLaw
import Derived.Test.YtalbmcidlalicaaDoorMem4
import Derived.Test.YtalbmcidlalicaaDoorBack
import Derived.Deep.RegionLaw
namespace Go.Proofs.YtalbmcidlalicaaDoor
open Go.RowKit
set_option linter.unusedVariables false

def SplitPost (w : World) (secret : List UInt8) (n : Nat) (more : List (List UInt8)) (e : Ending) (w' : World) : Prop :=
  Below w.heap.size w w' ∧ (((∀ r ∈ more, r.length = secret.length) ∧ ∃ a cap vs, e = .returned (.tuple #[.slice a n cap, .nilIface]) ∧ n ≤ cap ∧ cap ≤ 9223372036854775807 ∧ Rd w' a 49 vs ∧ AreS (fun b e => e = 5 ∧ w.heap.size ≤ b) w' (splitOf secret n more) vs) ∨
    ((∃ r ∈ more, r.length ≠ secret.length) ∧ e = .returned (.tuple #[.slice none 0 0, .iface 23 (.int .i64 3)])))

theorem Value_at (xs : List UInt8) (x : UInt8) (y : Int) (hy : y = x.toNat) (a : Option Addr) (cap e n : Nat) (hn : n = xs.length) (w : World) (hr : Rd w a e (xs.map vB)) (hx : xs.length ≤ 2000000000000) :
    Calls Tryd.prog 16 #[.slice a n cap, .int .u8 y] w fun e W' => e = .returned (.int .u8 (Gf.val xs x).toNat) ∧ Below w.heap.size w W' := by
  subst hy hn; exact Value_calls xs x a cap e w hr (by omega)
theorem coefs_take (secret : List UInt8) (more : List (List UInt8)) (i q : Nat) (h : q < more.length) : (coefs secret more i).take (q + 1 + 1) = (coefs secret more i).take (q + 1) ++ [more[q].getD i 0] := by
  have hl : (coefs secret more i).length = more.length + 1 := by simp [coefs]
  rw [List.take_succ_eq_append_getElem (by omega)]
  simp [coefs]
theorem shareOf_take (secret : List UInt8) (more : List (List UInt8)) (x : UInt8) (m : Nat) (h : m < secret.length) : (shareOf secret more x).data.take (m + 1) = (shareOf secret more x).data.take m ++ [Gf.val (coefs secret more m) x] := by
  have hl : (shareOf secret more x).data.length = secret.length := by simp [shareOf]
  rw [List.take_succ_eq_append_getElem (by omega)]
  simp [shareOf]

set_option maxHeartbeats 4000000 in
theorem Split_calls (secret : List UInt8) (n : Nat) (more : List (List UInt8)) (a : Option Addr) (ca ea : Nat) (b : Option Addr) (cb eb : Nat) (vs : List Value) (w : World) (ha : Rd w a ea (secret.map vB)) (hb : Rd w b eb vs) (hv : AreB (fun _ _ => True) w more vs)
    (h1 : 1 ≤ n) (h2 : n ≤ 20) (h3 : secret.length ≤ 100) (h4 : more.length ≤ 20) :
    Calls Tryd.prog 20 #[.slice a secret.length ca, .int .i64 n, .slice b more.length cb] w (SplitPost w secret n more) := by
  have hvl : vs.length = more.length := hv.1
  have Hvl := Lib.hid hvl
  clear hvl
  have v1 : more.length ≤ vs.length := by rw [Hvl.out]; omega
  have Hv := Lib.hid hv
  have q1 : decide ((n : Int) < 1) = false := by rw [decide_eq_false]; omega
  have q2 : decide ((20 : Int) < (n : Int)) = false := by rw [decide_eq_false]; omega
  have q3 : decide ((100 : Int) < (secret.length : Int)) = false := by rw [decide_eq_false]; omega
  have q4 : decide ((20 : Int) < (more.length : Int)) = false := by rw [decide_eq_false]; omega
  go_enter Tryd.func20, Tryd.ntmps20
  go_wp2
  go_loop [36] (fun i => ∃ k : Nat, k ≤ more.length ∧ i = .int .i64 k ∧ ∀ r ∈ more.take k, r.length = secret.length) (fun i => more.length - (intOf i).toNat)
  case atStart => exact ⟨0, Nat.zero_le _, rfl, by simp⟩
  case round =>
    obtain ⟨k, hk, rfl, hlen⟩ := hrel
    have Hlen := Lib.hid hlen
    clear hlen
    by_cases hlt : k < more.length
    · obtain ⟨bb, ob, rfl, hbb, hcb⟩ := hb.cell (k := k) (by omega)
      obtain ⟨ak, ck, ek, hvk, hrk, _⟩ := Hv.out.2 k hlt (by omega)
      have hck : w.cell? ⟨bb, ob + k, none⟩ = some (.slice ak more[k].length ck) := by rw [← hvk]; exact hcb k (by omega)
      clear hcb hvk hrk
      by_cases hkl : more[k].length = secret.length
      · have hnew : ∀ r ∈ more.take (k + 1), r.length = secret.length := by
          rw [List.take_succ_eq_append_getElem hlt]
          intro r hr
          rcases List.mem_append.1 hr with hr | hr
          · exact Hlen.out r hr
          · rw [List.mem_singleton.1 hr]; exact hkl
        rw [hkl] at hck
        have t : ((secret.length : Int) != (secret.length : Int)) = false := by simp
        have Hnew := Lib.hid hnew
        clear hkl hnew
        go_wp2
        go_round
        case rel => exact ⟨k + 1, by omega, by go_num, Hnew.out⟩
        case measure => simp [intOf] <;> omega
      · have hx : ∃ r ∈ more, r.length ≠ secret.length := ⟨more[k], List.getElem_mem _, hkl⟩
        have Hx := Lib.hid hx
        have t : ((more[k].length : Int) != (secret.length : Int)) = true := by rw [bne_iff_ne]; omega
        clear hkl hx
        go_wp2
        go_ret2
        exact ⟨Below.refl _ _, .inr ⟨Hx.out, rfl⟩⟩
    · obtain rfl : k = more.length := by omega
      have hall : ∀ r ∈ more, r.length = secret.length := by have := Hlen.out; rwa [List.take_of_length_le (Nat.le_refl _)] at this
      have Hall := Lib.hid hall
      clear hall
      go_wp2
      go_loopw [10, 11] (fun v i wr => ∃ k : Nat, k ≤ n ∧ i = .int .i64 ((k : Int) + 1) ∧ (∃ cs, wr.ownsRow w.heap.size 49 2 v k cs ∧ AreS (fun b e => e = 5 ∧ w.heap.size ≤ b) wr ((splitOf secret n more).take k) cs) ∧ Below w.heap.size w wr) (fun _ i _ => n + 1 - (intOf i).toNat)
      case atStart => exact ⟨0, Nat.zero_le _, rfl, ⟨[], World.ownsRow_nil _ _ _ _, AreS.nil⟩, Below.refl _ _⟩
      case round =>
        obtain ⟨k, hk, rfl, ⟨cs, hown, hA⟩, hbl⟩ := hrel
        have hsz := hbl.size
        by_cases hkn : k < n
        · have tq : decide ((k : Int) + 1 ≤ (n : Int)) = true := by rw [decide_eq_true_eq]; omega
          have Hcf : IntKind.u8.wrap ((k : Int) + 1) = (k : Int) + 1 := by rw [IntKind.wrap_u8]; omega
          go_wp2
          obtain ⟨wo, rfl⟩ : ∃ wo : World, wo = wr := ⟨_, rfl⟩
          obtain ⟨X, hX⟩ : ∃ X : UInt8, X = UInt8.ofNat (k + 1) := ⟨_, rfl⟩
          have hXi : (k : Int) + 1 = X.toNat := by rw [hX]; simp; omega
          have HX := Lib.hid hX
          have HXi := Lib.hid hXi
          clear hX hXi
          obtain ⟨B, hB⟩ : ∃ B, B = wo.heap.size := ⟨_, rfl⟩
          rw [← hB]
          have HB := Lib.hid hB
          clear hB
          go_loopw [57] (fun i wr => ∃ (m : Nat) (v : Value), m ≤ secret.length ∧ i = .int .i64 m ∧ wr.heap[B]? = some (.cells #[.int .u8 ((k : Int) + 1), v] 49) ∧ wr.ownsRow (B + 1) 5 1 v m (((shareOf secret more X).data.take m).map vB) ∧ Below wo.heap.size wo wr) (fun i _ => secret.length - (intOf i).toNat)
          case atStart => exact ⟨0, _, Nat.zero_le _, rfl, by rw [HB.out]; exact heap_alloc_new _ _, World.ownsRow_nil _ _ _ _, (Below.refl _ _).alloc (Nat.le_refl _) _⟩
          case round =>
            obtain ⟨m, v, hm, rfl, hBc, hownv, hbo⟩ := hrel
            have hbsz := lt_of_heap hBc
            have cB0 : wr.cell? ⟨B, 0, none⟩ = some (.int .u8 ((k : Int) + 1)) := by rw [cell_of_row wr B 0 _ _ _ hBc]; rfl
            have cB1 : wr.cell? ⟨B, 1, none⟩ = some v := by rw [cell_of_row wr B 1 _ _ _ hBc]; rfl
            have hos := hbo.size
            by_cases hml : m < secret.length
            · obtain ⟨ba, oa, rfl, hba, hca⟩ := ha.bytes hml
              have cs0 : wr.cell? ⟨ba, oa + m, none⟩ = some (.int .u8 secret[m].toNat) := ((hbl.trans (hbo.mono hsz)).cell (p := ⟨ba, oa + m, none⟩) hba).trans (hca m hml)
              have hsm : secret.getD m 0 = secret[m] := by rw [List.getD_eq_getElem?_getD, List.getElem?_eq_getElem hml]; rfl
              have Hsm := Lib.hid hsm
              clear hsm hca
              generalize secret[m] = y at *
              go_wp2
              obtain ⟨wi, rfl⟩ : ∃ wi : World, wi = wr := ⟨_, rfl⟩
              go_loopw [15, 66] (fun v i wr => ∃ q : Nat, q ≤ more.length ∧ i = .int .i64 q ∧ wr.ownsRow wi.heap.size 5 1 v (q + 1) (((coefs secret more m).take (q + 1)).map vB) ∧ Below wi.heap.size wi wr) (fun _ i _ => more.length - (intOf i).toNat)
              case atStart => exact ⟨0, Nat.zero_le _, rfl, by have := own_new1 wi wi.heap.size 5 (.int .u8 y.toNat) (Nat.le_refl _); rw [← Hsm.out] at this ⊢; exact this, (Below.refl _ _).alloc (Nat.le_refl _) _⟩
              case round =>
                obtain ⟨q, hq, rfl, hownc, hbi⟩ := hrel
                have his := hbi.size
                by_cases hqm : q < more.length
                · obtain ⟨bb, ob, rfl, hbb, hcb⟩ := hb.cell (k := q) (by omega)
                  obtain ⟨ak, ck, ek, hvk, hrk, _⟩ := Hv.out.2 q hqm (by omega)
                  have hml2 : m < more[q].length := by rw [Hall.out _ (List.getElem_mem _)]; exact hml
                  have hbw : Below w.heap.size w wr := (hbl.trans (hbo.mono hsz)).trans (hbi.mono (by omega))
                  have hck : wr.cell? ⟨bb, ob + q, none⟩ = some (.slice ak secret.length ck) := by
                    have h9 := hcb q (by omega)
                    rw [hvk, Hall.out _ (List.getElem_mem _)] at h9
                    exact (hbw.cell (p := ⟨bb, ob + q, none⟩) hbb).trans h9
                  obtain ⟨bk, ok, rfl, hbk, hcx⟩ := hrk.bytes hml2
                  have hcz : wr.cell? ⟨bk, ok + m, none⟩ = some (.int .u8 (more[q][m]).toNat) := (hbw.cell (p := ⟨bk, ok + m, none⟩) hbk).trans (hcx m hml2)
                  have hct := coefs_take secret more m q hqm
                  have hmm : more[q].getD m 0 = more[q][m] := by rw [List.getD_eq_getElem?_getD, List.getElem?_eq_getElem hml2]; rfl
                  rw [hmm] at hct
                  have Hct := Lib.hid hct
                  clear hct hmm hcb hvk hcx
                  generalize more[q][m] = z at *
                  have j0 : (0 : Int) ≤ (q : Int) := by omega
                  have j1 : (q : Int) < (more.length : Int) := by omega
                  have j2 : (0 : Int) ≤ (m : Int) := by omega
                  have j3 : (m : Int) < (secret.length : Int) := by omega
                  go_wp2_with (at_builtin; refine app1 33 5 (.int .u8 0) 1 Tryd.underlying33 info_u8 rfl (by omega) rfl _ _ rfl wi.heap.size _ (q + 1) _ rfl (hownc.alloc _) ⟨wr.heap.size, 0, none⟩ 1 (.int .u8 z.toNat) rfl (by simp) rfl (by omega) (by simp; omega) _ rfl ?_; intro g cap w1 hown1 hgrow hat hlt1)
                  have hb1 : Below wi.heap.size wi w1 := below_grow (hbi.alloc his _) (hownc.alloc _) hgrow (by simp; omega)
                  clear hgrow hat hlt1 hownc
                  go_wp2
                  go_roundw
                  case rel => exact ⟨q + 1, by omega, by go_num, by rw [Hct.out, List.map_append]; exact hown1, hb1⟩
                  case measure => simp [intOf] <;> omega
                · obtain rfl : q = more.length := by omega
                  rw [List.take_of_length_le (by simp [coefs])] at hownc
                  obtain ⟨a15, cap15, rfl⟩ := own_slice hownc
                  obtain ⟨av, capv, rfl⟩ := own_slice hownv
                  have c0 : wr.cell? ⟨B, 0, none⟩ = some (.int .u8 ((k : Int) + 1)) := (hbi.cell (p := ⟨B, 0, none⟩) hbsz).trans cB0
                  have c1 : wr.cell? ⟨B, 1, none⟩ = some (.slice av m capv) := (hbi.cell (p := ⟨B, 1, none⟩) hbsz).trans cB1
                  have hv2 : wr.ownsRow (B + 1) 5 1 (.slice av m capv) m (((shareOf secret more X).data.take m).map vB) := own_below hownv hbi
                  have r15 : Rd wr a15 5 ((coefs secret more m).map vB) := Rd.of_own hownc
                  have VC := fun w h => Value_at (coefs secret more m) X ((k : Int) + 1) HXi.out a15 cap15 5 (more.length + 1) (by simp [coefs]) w h (by simp [coefs]; omega)
                  go_wp2
                  obtain ⟨W0, hW0⟩ : ∃ W0, W0 = wr := ⟨_, rfl⟩
                  have hBW : wr.heap[B]? = some (.cells #[.int .u8 ((k : Int) + 1), .slice av m capv] 49 (0, 0)) := (hbi.block B hbsz).trans hBc
                  have hboW : Below wo.heap.size wo wr := hbo.trans (hbi.mono hos)
                  have neB : some B ≠ (Value.slice av m capv).ownBlock := fun e => own_ne hv2 (Nat.lt_succ_self B) B e.symm rfl
                  have hst := shareOf_take secret more X m hml
                  have Hst := Lib.hid hst
                  have hBsz : B < wr.heap.size := lt_of_heap hBW
                  have hBo : wo.heap.size ≤ B := by rw [HB.out]; exact Nat.le_refl _
                  clear hst
                  rw [← hW0] at c0 c1 hv2 r15 hBW hboW hBsz ⊢
                  have HW0 := Lib.hid hW0
                  clear hW0
                  go_region_law
                    ((first
                      | ((refine stepApp1 33 5 (.int .u8 0) 1 Tryd.underlying33 info_u8 rfl (by omega) (by rfl) (.tmp 79) (.tmp 84) (by rfl) (B + 1) (.slice av m capv) m (((shareOf secret more X).data.take m).map vB) (by rfl) ((own_below hv2 hbV).alloc _) ⟨wV.heap.size, 0, none⟩ 1 (.int .u8 (Gf.val (coefs secret more m) X).toNat) (by rfl) (by simp) rfl (by omega) (by have hq := hbV.size; simp; omega) _ rfl ?_; intro gA capA wA hownA hgrowA hatA hltA; have hqV := hbV.size; have hBA := (hgrowA.block B (by simp; omega) neB).trans ((Below.heap_alloc wV (.cells #[.int .u8 (Gf.val (coefs secret more m) X).toNat] 5) B (by omega)).trans ((hbV.block B hBsz).trans hBW)); have hfA : wA.frozen? ⟨B, 1, none⟩ = false := by simp [World.frozen?, hBA]); have hcA : wA.cell? ⟨B, 1, none⟩ = some (.slice av m capv) := by rw [cell_of_row wA B 1 _ _ _ hBA]; rfl)
                      | (refine stepCall2 16 Tryd.func16 (by kernel_rfl) (by kernel_rfl) (.tmp 80) (.tmp 82) #[33, 5] (by rfl) (by rfl) (.slice a15 (more.length + 1) cap15) (.int .u8 ((k : Int) + 1)) (by rfl) (by rfl) (Post := fun r wV => r = .int .u8 (Gf.val (coefs secret more m) X).toNat ∧ Below W0.heap.size W0 wV) ((VC _ (by first | exact r15 | exact r15.drew)).mono fun e wV h => ⟨_, h.1, rfl, Below.trans (Below.refl _ _).drew h.2⟩) ?_; rintro r wV ⟨rfl, hbV⟩; have cV0 := (hbV.cell (p := ⟨B, 0, none⟩) hBsz).trans c0; have cV1 := (hbV.cell (p := ⟨B, 1, none⟩) hBsz).trans c1; have cA1 : (wV.alloc (.cells #[.int .u8 (Gf.val (coefs secret more m) X).toNat] 5)).cell? ⟨B, 1, none⟩ = some (.slice av m capv) := (World.cell?_alloc_some _ _ _ (by rw [cV1]; rfl)).trans cV1)))
                  all_goals
                    have hbA : Below wo.heap.size wo wA := below_grow ((hboW.trans (hbV.mono (by omega))).alloc (by omega) _) ((own_base (own_below hv2 hbV) (by omega)).alloc _) hgrowA (by simp; omega)
                    have hown3 := own_setOther hownA ⟨B, 1, none⟩ (.slice (some ⟨gA, 0, none⟩) (m + 1) capA) (own_ne hownA (Nat.lt_succ_self B))
                    have hb3 := hbA.setCell (p := ⟨B, 1, none⟩) hBo (.slice (some ⟨gA, 0, none⟩) (m + 1) capA)
                    have hB3 : (wA.setCell ⟨B, 1, none⟩ (.slice (some ⟨gA, 0, none⟩) (m + 1) capA)).heap[B]? = some (.cells #[.int .u8 ((k : Int) + 1), .slice (some ⟨gA, 0, none⟩) (m + 1) capA] 49 (0, 0)) := by simp [World.setCell, Array.getElem?_modify, hBA]
                    clear hgrowA hatA hltA hownA hbA hBA hfA hcA cA1 cV0 cV1 c0 c1 hv2 r15 hBW VC hboW hownc hownv
                    go_wp2
                    go_roundw
                  all_goals first
                    | exact ⟨m + 1, _, by omega, by go_num, hB3, by rw [Hst.out, List.map_append]; exact hown3, hb3⟩
                    | (simp [intOf] <;> omega)
            · obtain rfl : m = secret.length := by omega
              obtain ⟨av, capv, rfl⟩ := own_slice hownv
              rw [List.take_of_length_le (by simp [shareOf])] at hownv
              have hown2 := own_below hown hbo
              have hA2 := hA.below hbo
              go_wp2_with (at_builtin; refine appN 37 49 (.agg #[.int .u8 0, .slice none 0 0]) 2 32 Tryd.underlying37 info_share rfl (by omega) (by omega) rfl _ _ rfl w.heap.size _ k cs rfl (hown2.alloc _) wr.heap.size 1 [.int .u8 ((k : Int) + 1), .slice av secret.length capv] rfl rfl (two_cells (by simp) (by simp)) (by simp [Value.oneCell']) (by omega) (by simp; omega) _ rfl ?_; intro g cap w1 hown1 hgrow hat hlt1)
              have hb1 : Below w.heap.size w w1 := below_grow ((hbl.trans (hbo.mono hsz)).alloc (by omega) _) (hown2.alloc _) hgrow (by simp; omega)
              have hin : IsB (fun b e => e = 5 ∧ w.heap.size ≤ b) wr (shareOf secret more X).data (.slice av secret.length capv) := (IsB.of_own hownv).mono fun b e _ h => ⟨h.1, by have h8 := HB.out; have h9 := h.2; omega⟩
              have hA3 := ((hA2.snoc (s := shareOf secret more X) hin).alloc (.cells #[.int .u8 ((k : Int) + 1), .slice av secret.length capv] 49)).grown hgrow (own_other (hown2.alloc _) (fun g e' _ h => by rw [h.1]; decide))
              have hsx : vB (shareOf secret more X).at_ = .int .u8 ((k : Int) + 1) := by rw [HXi.out]; rfl
              have hst := splitOf_take secret n more k hkn
              rw [hsx] at hA3
              rw [← HX.out] at hst
              rw [← hst] at hA3
              clear hgrow hat hlt1 hin hst hsx hown2 hA2 hownv
              go_wp2
              go_roundw
              case rel => exact ⟨k + 1, by omega, by go_num, ⟨_, hown1, hA3⟩, hb1⟩
              case measure => simp [intOf] <;> omega
        · obtain rfl : k = n := by omega
          obtain ⟨a10, cap10, rfl⟩ := own_slice hown
          have hcap := own_cap hown
          rw [List.take_of_length_le (by rw [splitOf_length]; omega)] at hA
          go_wp2
          go_ret2
          exact ⟨hbl, .inl ⟨Hall.out, a10, cap10, cs, rfl, hcap.1, hcap.2, Rd.of_own hown, hA⟩⟩
end Go.Proofs.YtalbmcidlalicaaDoor
