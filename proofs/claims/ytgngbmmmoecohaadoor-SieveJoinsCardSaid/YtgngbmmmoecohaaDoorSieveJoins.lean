/- SieveJoins: two sieves joined are the one that all was added to. -/
import Derived.Test.YtgngbmmmoecohaaDoorRows
import Derived.Test.YtgngbmmmoecohaaDoorLaidR
import Derived.Test.YtgngbmmmoecohaaDoorSieveOpen
import Derived.Test.YtgngbmmmoecohaaDoorSieveSift
import Derived.Test.YtgngbmmmoecohaaDoorSieveBoth
import Derived.Test.YtgngbmmmoecohaaDoorSame
import Derived.WalkKit
import Derived.ProofKit
import Derived.OpenShut
import Derived.ShutString
import Derived.ChangeOld
import Derived.Below
namespace Go.Proofs.YtgngbmmmoecohaaDoor
open Go.ChangeShapes Go.WideShapes Go.ChangeAt Go.RowKit
open Go.ChangeMaps (open_string shut_string)
set_option linter.unusedVariables false
namespace sieveJoins

/-- a sieve in a variable of the law's own -/
structure SvVar (w : World) (V : Nat) (a : Option Addr) (L c K e : Nat) (l : List UInt8) : Prop where
  hp : w.heap[V]? = some (.cells #[.slice a L c, .int .i64 (K : Int)] 33 (0, 0))
  rd : Rd w a e (l.map vB)
theorem SvVar.below {w w' : World} {V : Nat} {a : Option Addr} {L c K e : Nat} {l : List UInt8} (h : SvVar w V a L c K e l) (hb : Below w.heap.size w w') : SvVar w' V a L c K e l := ⟨(hb.block V (lt_of_heap h.hp)).trans h.hp, h.rd.below hb⟩
theorem SvVar.c0 {w : World} {V : Nat} {a : Option Addr} {L c K e : Nat} {l : List UInt8} (h : SvVar w V a L c K e l) : w.cell? ⟨V, 0, none⟩ = some (.slice a L c) := by rw [cell_of_row _ _ _ _ _ _ h.hp]; rfl
theorem SvVar.c1 {w : World} {V : Nat} {a : Option Addr} {L c K e : Nat} {l : List UInt8} (h : SvVar w V a L c K e l) : w.cell? ⟨V, 1, none⟩ = some (.int .i64 (K : Int)) := by rw [cell_of_row _ _ _ _ _ _ h.hp]; rfl
theorem SvVar.new {w : World} {a : Option Addr} {L c K e : Nat} {l : List UInt8} (h : Rd w a e (l.map vB)) : SvVar (w.alloc (.cells #[.slice a L c, .int .i64 (K : Int)] 33)) w.heap.size a L c K e l := ⟨heap_alloc_new _ _, h.alloc _⟩
-- HOLE: the walk
set_option maxRecDepth 100000 in
set_option maxHeartbeats 16000000 in
theorem walk (x0 : List UInt8) (a0 : Option Addr) (c0 e0 : Nat) (j0 : Int) (x1 : List (List UInt8)) (a1 : Option Addr) (c1 e1 : Nat) (v1_ : List Value) (x2 : List (List UInt8)) (a2 : Option Addr) (c2 e2 : Nat) (v2_ : List Value) (w : World) (l0 : x0.length ≤ 9223372036854775807) (b0 : -9223372036854775808 ≤ j0 ∧ j0 ≤ 9223372036854775807) (r0 : Rd w a0 e0 (x0.map vB)) (l1 : x1.length ≤ 9223372036854775807) (r1 : Rd w a1 e1 v1_) (m1 : AreB (fun _ _ => True) w x1 v1_) (z1 : ∀ i, (h : i < x1.length) → x1[i].length ≤ reachBytes) (l2 : x2.length ≤ 9223372036854775807) (r2 : Rd w a2 e2 v2_) (m2 : AreB (fun _ _ => True) w x2 v2_) (z2 : ∀ i, (h : i < x2.length) → x2[i].length ≤ reachBytes) (hro : RoundsAt w) :
    Calls Tryd.prog 6 #[.agg #[.slice a0 x0.length c0, .int .i64 j0], .slice a1 x1.length c1, .slice a2 x2.length c2] w fun e w' => e = .returned (.bool true) ∧ Below w.heap.size w w' := by
  obtain ⟨H, hH⟩ : ∃ H, H = w.heap.size := ⟨_, rfl⟩
  obtain ⟨w0, hw0⟩ : ∃ z, z = w.alloc (.cells #[.slice a0 x0.length c0, .int .i64 j0] 33) := ⟨_, rfl⟩
  have q0 : w0.heap.size = H + 1 := by rw [hw0, hH]; exact World.size_alloc _ _
  have b00 : Below H w w0 := by rw [hw0, hH]; exact (Below.refl _ _).alloc (Nat.le_refl _) _
  have g0 : w0.heap[H]? = some (.cells #[.slice a0 x0.length c0, .int .i64 j0] 33 (0, 0)) := by rw [hw0, hH]; exact heap_alloc_new _ _
  have bw : Below w.heap.size w w0 := by rw [← hH]; exact b00
  have SF := Sifted_calls w0 (hro.at_ bw)
  have HSF := Lib.hid SF
  have HW0 := Lib.hid hw0
  have HH := Lib.hid hH
  have B0 := Lib.hid b00
  have G0 := Lib.hid g0
  have Q0 := Lib.hid q0
  have HR0 := Lib.hid (r0.below bw)
  have HZ1 : Hid (RowsZ w0 a1 e1 v1_ x1) := Lib.hid ⟨r1.below bw, m1.below bw, fun i h => Nat.le_trans (z1 i h) (by decide)⟩
  have HZ2 : Hid (RowsZ w0 a2 e2 v2_ x2) := Lib.hid ⟨r2.below bw, m2.below bw, fun i h => Nat.le_trans (z2 i h) (by decide)⟩
  have HRO := Lib.hid (hro.at_ bw)
  clear SF hw0 hH b00 g0 q0 bw r0 r1 m1 z1 r2 m2 z2 hro
  go_enter Tryd.func6, Tryd.ntmps6
  go_wp2_with fail
  rw [← HH.out, ← HW0.out]
  refine HSF.out.mono ?_
  rintro ex wa ⟨rfl, hba⟩
  have ga := (hba.block H (by rw [Q0.out]; omega)).trans G0.out
  have s0 : wa.cell? ⟨H, 0, none⟩ = some (.slice a0 x0.length c0) := by rw [cell_of_row _ _ _ _ _ _ ga]; rfl
  have s1 : wa.cell? ⟨H, 1, none⟩ = some (.int .i64 j0) := by rw [cell_of_row _ _ _ _ _ _ ga]; rfl
  have HBA := Lib.hid hba
  clear hba HSF ga
  by_cases hok : SvOk x0.length j0
  · have CO := fun W => Check_ok a0 x0.length c0 j0 hok W
    have HCO := Lib.hid CO
    obtain ⟨⟨hL1, hL2⟩, hK1, hK2⟩ := hok
    obtain ⟨K, rfl⟩ : ∃ K : Nat, j0 = (K : Int) := ⟨j0.toNat, by omega⟩
    clear CO
    go_wp2_with fail
    refine (HCO.out _).mono ?_
    rintro ex wb ⟨rfl, hbb⟩
    have hb0b : Below w0.heap.size w0 wb := HBA.out.trans (hbb.mono HBA.out.size)
    have S0 : Hid (SvVar wb H a0 x0.length c0 K e0 x0) := Lib.hid ⟨(hb0b.block H (by rw [Q0.out]; omega)).trans G0.out, HR0.out.below hb0b⟩
    have HB0 := Lib.hid hb0b
    have HL0 : 0 < x0.length := by omega
    have HL1 : x0.length ≤ 1024 := by omega
    have HK1 : 1 ≤ K := by omega
    have HK2 : K ≤ 8 := by omega
    clear hbb hb0b HCO HBA HR0 s0 s1 hL1 hL2 hK1 hK2
    by_cases h30 : x1.length ≤ 30
    · have y1 : decide (30 < x1.length) = false := decide_eq_false (by omega)
      have y2 : decide ((30 : Int) < (x1.length : Int)) = false := decide_eq_false (by omega)
      by_cases h31 : x2.length ≤ 30
      · have y3 : decide (30 < x2.length) = false := decide_eq_false (by omega)
        have y4 : decide ((30 : Int) < (x2.length : Int)) = false := decide_eq_false (by omega)
        have d00 := S0.out.c0
        have d01 := S0.out.c1
        have FC := Filled_calls x0 (by exact HL0) (by exact HL1) K HK1 HK2 x1 h30 a0 c0 e0 a1 c1 e1 v1_ wb S0.out.rd (HZ1.out.below HB0.out) (HRO.out.at_ HB0.out)
        obtain ⟨y1_, hy1⟩ : ∃ z, z = fillB K x0 x1 := ⟨_, rfl⟩
        have hl1 : y1_.length = x0.length := by rw [hy1]; exact (fillB_length K x1 x0)
        rw [← hy1] at FC
        have HY1 := Lib.hid hy1
        have HFC := Lib.hid FC
        clear FC hy1
        go_wp2_with fail
        refine HFC.out.mono ?_
        rintro ex wc1 ⟨p1, q1, r1_, rfl, hrt, hbc⟩
        obtain ⟨V1, hV⟩ : ∃ V, V = wc1.heap.size := ⟨_, rfl⟩
        obtain ⟨wd1, hwd⟩ : ∃ z, z = wc1.alloc (.cells #[.slice p1 x0.length q1, .int .i64 (K : Int)] 33) := ⟨_, rfl⟩
        have hbd : Below wb.heap.size wb wd1 := by rw [hwd]; exact hbc.alloc hbc.size _
        have S1 : Hid (SvVar wd1 V1 p1 x0.length q1 K r1_ y1_) := Lib.hid (by rw [hwd, hV]; exact SvVar.new hrt)
        replace S0 : Hid (SvVar wd1 H a0 x0.length c0 K e0 x0) := Lib.hid (S0.out.below hbd)
        replace HB0 : Hid (Below w0.heap.size w0 wd1) := Lib.hid (HB0.out.trans (hbd.mono HB0.out.size))
        have HVV := Lib.hid hV
        have HWD := Lib.hid hwd
        clear hV hwd hbd hrt hbc HFC d00 d01
        go_upto_region 7 with fail
        rw [← HVV.out, ← HWD.out]
        clear HVV HWD
        have d00 := S0.out.c0
        have d01 := S0.out.c1
        have FC := Filled_calls x0 (by exact HL0) (by exact HL1) K HK1 HK2 x2 h31 a0 c0 e0 a2 c2 e2 v2_ wd1 S0.out.rd (HZ2.out.below HB0.out) (HRO.out.at_ HB0.out)
        obtain ⟨y2_, hy2⟩ : ∃ z, z = fillB K x0 x2 := ⟨_, rfl⟩
        have hl2 : y2_.length = x0.length := by rw [hy2]; exact (fillB_length K x2 x0)
        rw [← hy2] at FC
        have HY2 := Lib.hid hy2
        have HFC := Lib.hid FC
        clear FC hy2
        go_wp2_with fail
        refine HFC.out.mono ?_
        rintro ex wc2 ⟨p2, q2, r2_, rfl, hrt, hbc⟩
        obtain ⟨V2, hV⟩ : ∃ V, V = wc2.heap.size := ⟨_, rfl⟩
        obtain ⟨wd2, hwd⟩ : ∃ z, z = wc2.alloc (.cells #[.slice p2 x0.length q2, .int .i64 (K : Int)] 33) := ⟨_, rfl⟩
        have hbd : Below wd1.heap.size wd1 wd2 := by rw [hwd]; exact hbc.alloc hbc.size _
        have S2 : Hid (SvVar wd2 V2 p2 x0.length q2 K r2_ y2_) := Lib.hid (by rw [hwd, hV]; exact SvVar.new hrt)
        replace S0 : Hid (SvVar wd2 H a0 x0.length c0 K e0 x0) := Lib.hid (S0.out.below hbd)
        replace S1 : Hid (SvVar wd2 V1 p1 x0.length q1 K r1_ y1_) := Lib.hid (S1.out.below hbd)
        replace HB0 : Hid (Below w0.heap.size w0 wd2) := Lib.hid (HB0.out.trans (hbd.mono HB0.out.size))
        have HVV := Lib.hid hV
        have HWD := Lib.hid hwd
        clear hV hwd hbd hrt hbc HFC d00 d01
        go_upto_region 8 with fail
        rw [← HVV.out, ← HWD.out]
        clear HVV HWD
        have d10 := S1.out.c0
        have d11 := S1.out.c1
        have FC := Filled_calls y1_ (by rw [hl1]; exact HL0) (by rw [hl1]; exact HL1) K HK1 HK2 x2 h31 p1 q1 r1_ a2 c2 e2 v2_ wd2 S1.out.rd (HZ2.out.below HB0.out) (HRO.out.at_ HB0.out)
        rw [hl1] at FC
        obtain ⟨y3_, hy3⟩ : ∃ z, z = fillB K y1_ x2 := ⟨_, rfl⟩
        have hl3 : y3_.length = x0.length := by rw [hy3]; exact (fillB_length K x2 y1_).trans hl1
        rw [← hy3] at FC
        have HY3 := Lib.hid hy3
        have HFC := Lib.hid FC
        clear FC hy3
        go_wp2_with fail
        refine HFC.out.mono ?_
        rintro ex wc3 ⟨p3, q3, r3_, rfl, hrt, hbc⟩
        obtain ⟨V3, hV⟩ : ∃ V, V = wc3.heap.size := ⟨_, rfl⟩
        obtain ⟨wd3, hwd⟩ : ∃ z, z = wc3.alloc (.cells #[.slice p3 x0.length q3, .int .i64 (K : Int)] 33) := ⟨_, rfl⟩
        have hbd : Below wd2.heap.size wd2 wd3 := by rw [hwd]; exact hbc.alloc hbc.size _
        have S3 : Hid (SvVar wd3 V3 p3 x0.length q3 K r3_ y3_) := Lib.hid (by rw [hwd, hV]; exact SvVar.new hrt)
        replace S0 : Hid (SvVar wd3 H a0 x0.length c0 K e0 x0) := Lib.hid (S0.out.below hbd)
        replace S1 : Hid (SvVar wd3 V1 p1 x0.length q1 K r1_ y1_) := Lib.hid (S1.out.below hbd)
        replace S2 : Hid (SvVar wd3 V2 p2 x0.length q2 K r2_ y2_) := Lib.hid (S2.out.below hbd)
        replace HB0 : Hid (Below w0.heap.size w0 wd3) := Lib.hid (HB0.out.trans (hbd.mono HB0.out.size))
        have HVV := Lib.hid hV
        have HWD := Lib.hid hwd
        clear hV hwd hbd hrt hbc HFC d10 d11
        go_upto_region 9 with fail
        rw [← HVV.out, ← HWD.out]
        clear HVV HWD
        have d20 := S2.out.c0
        have d21 := S2.out.c1
        have FC := Filled_calls y2_ (by rw [hl2]; exact HL0) (by rw [hl2]; exact HL1) K HK1 HK2 x1 h30 p2 q2 r2_ a1 c1 e1 v1_ wd3 S2.out.rd (HZ1.out.below HB0.out) (HRO.out.at_ HB0.out)
        rw [hl2] at FC
        obtain ⟨y4_, hy4⟩ : ∃ z, z = fillB K y2_ x1 := ⟨_, rfl⟩
        have hl4 : y4_.length = x0.length := by rw [hy4]; exact (fillB_length K x1 y2_).trans hl2
        rw [← hy4] at FC
        have HY4 := Lib.hid hy4
        have HFC := Lib.hid FC
        clear FC hy4
        go_wp2_with fail
        refine HFC.out.mono ?_
        rintro ex wc4 ⟨p4, q4, r4_, rfl, hrt, hbc⟩
        obtain ⟨V4, hV⟩ : ∃ V, V = wc4.heap.size := ⟨_, rfl⟩
        obtain ⟨wd4, hwd⟩ : ∃ z, z = wc4.alloc (.cells #[.slice p4 x0.length q4, .int .i64 (K : Int)] 33) := ⟨_, rfl⟩
        have hbd : Below wd3.heap.size wd3 wd4 := by rw [hwd]; exact hbc.alloc hbc.size _
        have S4 : Hid (SvVar wd4 V4 p4 x0.length q4 K r4_ y4_) := Lib.hid (by rw [hwd, hV]; exact SvVar.new hrt)
        replace S0 : Hid (SvVar wd4 H a0 x0.length c0 K e0 x0) := Lib.hid (S0.out.below hbd)
        replace S1 : Hid (SvVar wd4 V1 p1 x0.length q1 K r1_ y1_) := Lib.hid (S1.out.below hbd)
        replace S2 : Hid (SvVar wd4 V2 p2 x0.length q2 K r2_ y2_) := Lib.hid (S2.out.below hbd)
        replace S3 : Hid (SvVar wd4 V3 p3 x0.length q3 K r3_ y3_) := Lib.hid (S3.out.below hbd)
        replace HB0 : Hid (Below w0.heap.size w0 wd4) := Lib.hid (HB0.out.trans (hbd.mono HB0.out.size))
        have HVV := Lib.hid hV
        have HWD := Lib.hid hwd
        clear hV hwd hbd hrt hbc HFC d20 d21
        go_upto_region 10 with fail
        rw [← HVV.out, ← HWD.out]
        clear HVV HWD
        have d10 := S1.out.c0
        have d11 := S1.out.c1
        have d20 := S2.out.c0
        have d21 := S2.out.c1
        have FC := Join_ok y1_ y2_ (by rw [hl1]; exact HL0) (by rw [hl1]; exact HL1) (hl2.trans hl1.symm) K HK1 HK2 p1 q1 r1_ p2 q2 r2_ wd4 ⟨S1.out.rd, S2.out.rd⟩
        rw [hl1] at FC
        obtain ⟨y5_, hy5⟩ : ∃ z, z = joinB y1_ y2_ := ⟨_, rfl⟩
        have hl5 : y5_.length = x0.length := by rw [hy5]; exact (joinB_length y1_ y2_).trans hl1
        rw [← hy5] at FC
        have HY5 := Lib.hid hy5
        have HFC := Lib.hid FC
        clear FC hy5
        go_wp2_with fail
        refine HFC.out.mono ?_
        rintro ex wc5 ⟨p5, q5, r5_, rfl, hrt, hbc⟩
        obtain ⟨V5, hV⟩ : ∃ V, V = wc5.heap.size := ⟨_, rfl⟩
        obtain ⟨wd5, hwd⟩ : ∃ z, z = wc5.alloc (.cells #[.slice p5 x0.length q5, .int .i64 (K : Int)] 33) := ⟨_, rfl⟩
        have hbd : Below wd4.heap.size wd4 wd5 := by rw [hwd]; exact hbc.alloc hbc.size _
        have S5 : Hid (SvVar wd5 V5 p5 x0.length q5 K r5_ y5_) := Lib.hid (by rw [hwd, hV]; exact SvVar.new hrt)
        replace S0 : Hid (SvVar wd5 H a0 x0.length c0 K e0 x0) := Lib.hid (S0.out.below hbd)
        replace S1 : Hid (SvVar wd5 V1 p1 x0.length q1 K r1_ y1_) := Lib.hid (S1.out.below hbd)
        replace S2 : Hid (SvVar wd5 V2 p2 x0.length q2 K r2_ y2_) := Lib.hid (S2.out.below hbd)
        replace S3 : Hid (SvVar wd5 V3 p3 x0.length q3 K r3_ y3_) := Lib.hid (S3.out.below hbd)
        replace S4 : Hid (SvVar wd5 V4 p4 x0.length q4 K r4_ y4_) := Lib.hid (S4.out.below hbd)
        replace HB0 : Hid (Below w0.heap.size w0 wd5) := Lib.hid (HB0.out.trans (hbd.mono HB0.out.size))
        have HVV := Lib.hid hV
        have HWD := Lib.hid hwd
        clear hV hwd hbd hrt hbc HFC d10 d11 d20 d21
        go_upto_region 11 with fail
        rw [← HVV.out, ← HWD.out]
        clear HVV HWD
        have d20 := S2.out.c0
        have d21 := S2.out.c1
        have d10 := S1.out.c0
        have d11 := S1.out.c1
        have FC := Join_ok y2_ y1_ (by rw [hl2]; exact HL0) (by rw [hl2]; exact HL1) (hl1.trans hl2.symm) K HK1 HK2 p2 q2 r2_ p1 q1 r1_ wd5 ⟨S2.out.rd, S1.out.rd⟩
        rw [hl2] at FC
        obtain ⟨y6_, hy6⟩ : ∃ z, z = joinB y2_ y1_ := ⟨_, rfl⟩
        have hl6 : y6_.length = x0.length := by rw [hy6]; exact (joinB_length y2_ y1_).trans hl2
        rw [← hy6] at FC
        have HY6 := Lib.hid hy6
        have HFC := Lib.hid FC
        clear FC hy6
        go_wp2_with fail
        refine HFC.out.mono ?_
        rintro ex wc6 ⟨p6, q6, r6_, rfl, hrt, hbc⟩
        obtain ⟨V6, hV⟩ : ∃ V, V = wc6.heap.size := ⟨_, rfl⟩
        obtain ⟨wd6, hwd⟩ : ∃ z, z = wc6.alloc (.cells #[.slice p6 x0.length q6, .int .i64 (K : Int)] 33) := ⟨_, rfl⟩
        have hbd : Below wd5.heap.size wd5 wd6 := by rw [hwd]; exact hbc.alloc hbc.size _
        have S6 : Hid (SvVar wd6 V6 p6 x0.length q6 K r6_ y6_) := Lib.hid (by rw [hwd, hV]; exact SvVar.new hrt)
        replace S0 : Hid (SvVar wd6 H a0 x0.length c0 K e0 x0) := Lib.hid (S0.out.below hbd)
        replace S1 : Hid (SvVar wd6 V1 p1 x0.length q1 K r1_ y1_) := Lib.hid (S1.out.below hbd)
        replace S2 : Hid (SvVar wd6 V2 p2 x0.length q2 K r2_ y2_) := Lib.hid (S2.out.below hbd)
        replace S3 : Hid (SvVar wd6 V3 p3 x0.length q3 K r3_ y3_) := Lib.hid (S3.out.below hbd)
        replace S4 : Hid (SvVar wd6 V4 p4 x0.length q4 K r4_ y4_) := Lib.hid (S4.out.below hbd)
        replace S5 : Hid (SvVar wd6 V5 p5 x0.length q5 K r5_ y5_) := Lib.hid (S5.out.below hbd)
        replace HB0 : Hid (Below w0.heap.size w0 wd6) := Lib.hid (HB0.out.trans (hbd.mono HB0.out.size))
        have HVV := Lib.hid hV
        have HWD := Lib.hid hwd
        clear hV hwd hbd hrt hbc HFC d20 d21 d10 d11
        go_upto_region 12 with fail
        rw [← HVV.out, ← HWD.out]
        clear HVV HWD
        have d50 := S5.out.c0
        have d30 := S3.out.c0
        have BC := Bytes_calls y5_ y3_ p5 p3 q5 q3 r5_ r3_ wd6 S5.out.rd S3.out.rd (by rw [hl5]; omega)
        rw [hl5, hl3, decide_eq_true (show y5_ = y3_ from by rw [HY5.out, HY3.out, HY1.out, HY2.out]; exact join_fill K x0 HL0 x1 x2)] at BC
        have HBC := Lib.hid BC
        clear BC
        go_wp2_with fail
        refine HBC.out.mono ?_
        rintro ex wn0 ⟨rfl, nn, hwn⟩
        have hbn : Below wd6.heap.size wd6 wn0 := by rw [hwn]; exact below_drewN (Below.refl _ _) nn
        replace S0 : Hid (SvVar wn0 H a0 x0.length c0 K e0 x0) := Lib.hid (S0.out.below hbn)
        replace S3 : Hid (SvVar wn0 V3 p3 x0.length q3 K r3_ y3_) := Lib.hid (S3.out.below hbn)
        replace S4 : Hid (SvVar wn0 V4 p4 x0.length q4 K r4_ y4_) := Lib.hid (S4.out.below hbn)
        replace S5 : Hid (SvVar wn0 V5 p5 x0.length q5 K r5_ y5_) := Lib.hid (S5.out.below hbn)
        replace S6 : Hid (SvVar wn0 V6 p6 x0.length q6 K r6_ y6_) := Lib.hid (S6.out.below hbn)
        replace HB0 : Hid (Below w0.heap.size w0 wn0) := Lib.hid (HB0.out.trans (hbn.mono HB0.out.size))
        clear hbn hwn HBC d50 d30
        have d60 := S6.out.c0
        have d40 := S4.out.c0
        have BC := Bytes_calls y6_ y4_ p6 p4 q6 q4 r6_ r4_ wn0 S6.out.rd S4.out.rd (by rw [hl6]; omega)
        rw [hl6, hl4, decide_eq_true (show y6_ = y4_ from by rw [HY6.out, HY4.out, HY1.out, HY2.out]; exact join_fill K x0 HL0 x2 x1)] at BC
        have HBC := Lib.hid BC
        clear BC
        go_wp2_with fail
        refine HBC.out.mono ?_
        rintro ex wn1 ⟨rfl, nn, hwn⟩
        have hbn : Below wn0.heap.size wn0 wn1 := by rw [hwn]; exact below_drewN (Below.refl _ _) nn
        replace S0 : Hid (SvVar wn1 H a0 x0.length c0 K e0 x0) := Lib.hid (S0.out.below hbn)
        replace S3 : Hid (SvVar wn1 V3 p3 x0.length q3 K r3_ y3_) := Lib.hid (S3.out.below hbn)
        replace S4 : Hid (SvVar wn1 V4 p4 x0.length q4 K r4_ y4_) := Lib.hid (S4.out.below hbn)
        replace S5 : Hid (SvVar wn1 V5 p5 x0.length q5 K r5_ y5_) := Lib.hid (S5.out.below hbn)
        replace S6 : Hid (SvVar wn1 V6 p6 x0.length q6 K r6_ y6_) := Lib.hid (S6.out.below hbn)
        replace HB0 : Hid (Below w0.heap.size w0 wn1) := Lib.hid (HB0.out.trans (hbn.mono HB0.out.size))
        clear hbn hwn HBC d60 d40
        have d30 := S3.out.c0
        have d40 := S4.out.c0
        have BC := Bytes_calls y3_ y4_ p3 p4 q3 q4 r3_ r4_ wn1 S3.out.rd S4.out.rd (by rw [hl3]; omega)
        rw [hl3, hl4, decide_eq_true (show y3_ = y4_ from by rw [HY3.out, HY4.out, HY1.out, HY2.out]; exact fill_comm K x0 HL0 x1 x2)] at BC
        have HBC := Lib.hid BC
        clear BC
        go_wp2_with fail
        refine HBC.out.mono ?_
        rintro ex wn2 ⟨rfl, nn, hwn⟩
        have hbn : Below wn1.heap.size wn1 wn2 := by rw [hwn]; exact below_drewN (Below.refl _ _) nn
        replace S0 : Hid (SvVar wn2 H a0 x0.length c0 K e0 x0) := Lib.hid (S0.out.below hbn)
        replace S3 : Hid (SvVar wn2 V3 p3 x0.length q3 K r3_ y3_) := Lib.hid (S3.out.below hbn)
        replace S4 : Hid (SvVar wn2 V4 p4 x0.length q4 K r4_ y4_) := Lib.hid (S4.out.below hbn)
        replace S5 : Hid (SvVar wn2 V5 p5 x0.length q5 K r5_ y5_) := Lib.hid (S5.out.below hbn)
        replace S6 : Hid (SvVar wn2 V6 p6 x0.length q6 K r6_ y6_) := Lib.hid (S6.out.below hbn)
        replace HB0 : Hid (Below w0.heap.size w0 wn2) := Lib.hid (HB0.out.trans (hbn.mono HB0.out.size))
        clear hbn hwn HBC d30 d40
        have d51 := S5.out.c1
        have d01 := S0.out.c1
        have zz : ((K : Int) == (K : Int)) = true := beq_self_eq_true _
        have HM := Lib.hid (show Below H w wn2 from B0.out.trans (HB0.out.mono (by rw [Q0.out]; omega)))
        clear HB0 S0 S1 S2 S3 S4 S5 S6 HZ1 HZ2 HRO
        go_wp2_with fail
        go_ret
        exact ⟨rfl, by rw [← HH.out]; exact HM.out⟩
      · have y3 : decide (30 < x2.length) = true := decide_eq_true (by omega)
        have y4 : decide ((30 : Int) < (x2.length : Int)) = true := decide_eq_true (by omega)
        have HM := Lib.hid (show Below H w wb from B0.out.trans (HB0.out.mono (by rw [Q0.out]; omega)))
        clear HB0 S0 HZ1 HZ2 HRO
        go_wp2_with fail
        go_ret
        exact ⟨rfl, by rw [← HH.out]; exact HM.out⟩
    · have y1 : decide (30 < x1.length) = true := decide_eq_true (by omega)
      have y2 : decide ((30 : Int) < (x1.length : Int)) = true := decide_eq_true (by omega)
      have HM := Lib.hid (show Below H w wb from B0.out.trans (HB0.out.mono (by rw [Q0.out]; omega)))
      clear HB0 S0 HZ1 HZ2 HRO
      go_wp2_with fail
      go_ret
      exact ⟨rfl, by rw [← HH.out]; exact HM.out⟩
  · have CN := fun W => Check_no a0 x0.length c0 j0 hok W
    have HCN := Lib.hid CN
    clear CN hok
    go_wp2_with fail
    refine (HCN.out _).mono ?_
    rintro ex wb ⟨rfl, hbb⟩
    have HM := Lib.hid (show Below H w wb from B0.out.trans ((HBA.out.trans (hbb.mono HBA.out.size)).mono (by rw [Q0.out]; omega)))
    clear hbb HBA HCN s0 s1
    go_wp2_with fail
    go_ret
    exact ⟨rfl, by rw [← HH.out]; exact HM.out⟩

set_option maxRecDepth 100000 in
theorem lifted (os : Os) (started : os.Started) (H : Type) (enc : TypeId × Value → H) :
    ReturnsInHanded {} Tryd.checked os 6 .any (fun w args => (Rows.sieveJoinsSpec.pre enc Tryd.prog Tryd.f6 Rows.sieveJoinsRow.domain false w args ∧ laidMetH Tryd.prog Laid.list w) ∧ sizedMet enc Tryd.prog Tryd.f6 (OpenSpec.ofChange Rows.sieveJoinsSpec) false w args) (Rows.sieveJoinsSpec.post enc Tryd.prog Tryd.f6 false true false false) := by
  refine returnsInHanded_of_change_and (C := Tryd.checked) (X := fun w _ => laidMetH Tryd.prog Laid.list w) (fun _ _ _ hh h => h.of_heap hh) Laid.own started (by kernel_rfl) Tryd.func6
    (ChangeSpec.witness_at (enc := enc) (C := Tryd.checked) (os := os) (X := fun w _ => laidMetH Tryd.prog Laid.list w) false (laidWorld os) #[.agg #[.slice none 0 0, .int .i64 0], .slice none 0 0, .slice none 0 0] 8 rfl (by kernel_rfl) (by kernel_rfl) (by kernel_rfl) (by kernel_rfl) (by kernel_rfl) (laidWorld_met os _)) ?_
  intro W base args ds gs before hval0 hW _ hsz hL _
  have hro := rounds_of_laid hL
  have hval : ∀ (j : Nat) t v, Tryd.f6.params[j]? = some t → args[j]? = some v → Value.okWide Tryd.prog W .any base t v := hval0
  have hW' := hW
  obtain ⟨p, q, hA0, hV, rfl, hfz, hnd⟩ := hW
  have hA : DataW.TrodAll enc Tryd.prog W 0 (fun _ => true) true Tryd.f6.params.toList args.toList ds p := hA0
  rw [Tryd.params6] at hA hval
  obtain ⟨v0, vs0, d0, ds0, p0, q0, hargs, rfl, rfl, h0, r0⟩ := trodAll_cons hA
  obtain ⟨v1, vs1, d1, ds1, p1, q1, rfl, rfl, rfl, h1, r1⟩ := trodAll_cons r0
  obtain ⟨v2, vs2, d2, ds2, p2, q2, rfl, rfl, rfl, h2, r2⟩ := trodAll_cons r1
  obtain ⟨rfl, rfl, rfl⟩ := trodAll_nil r2
  obtain rfl : args = #[v0, v1, v2] := by cases args; simp_all
  obtain ⟨rfl, rfl⟩ := trodVars_none hV
  have k0 := h0
  have lt0 : ∀ x ∈ p0, x.block < W.heap.size := by obtain ⟨m, hm⟩ := k0; exact DataW.trod_lt m _ _ _ hm
  obtain ⟨x0, a0, c0, e0, j0, rfl, l0, b0, r_0⟩ := open_sieve Tryd.underlying33 Tryd.underlying24 Tryd.underlying3 Tryd.underlying5 (by kernel_rfl) (by kernel_rfl) (by kernel_rfl) (by kernel_rfl) rfl rfl (hval 0 33 v0 rfl rfl) h0
  have k1 := h1
  have lt1 : ∀ x ∈ p1, x.block < W.heap.size := by obtain ⟨m, hm⟩ := k1; exact DataW.trod_lt m _ _ _ hm
  obtain ⟨x1, a1, c1, e1, u1, rfl, l1, r_1, m1, z1⟩ := open_rows2 Tryd.underlying34 Tryd.underlying24 Tryd.underlying5 (by kernel_rfl) (by kernel_rfl) (by kernel_rfl) (fun n hn => of_decide_eq_true (List.all_eq_true.1 hsz n (DataW.weights_mem_each (j := 1) (by first | rfl | kernel_rfl) rfl n hn))) (hval 1 34 v1 rfl rfl) h1
  have k2 := h2
  have lt2 : ∀ x ∈ p2, x.block < W.heap.size := by obtain ⟨m, hm⟩ := k2; exact DataW.trod_lt m _ _ _ hm
  obtain ⟨x2, a2, c2, e2, u2, rfl, l2, r_2, m2, z2⟩ := open_rows2 Tryd.underlying34 Tryd.underlying24 Tryd.underlying5 (by kernel_rfl) (by kernel_rfl) (by kernel_rfl) (fun n hn => of_decide_eq_true (List.all_eq_true.1 hsz n (DataW.weights_mem_each (j := 2) (by first | rfl | kernel_rfl) rfl n hn))) (hval 2 34 v2 rfl rfl) h2
  clear hA0 hval0
  refine (walk x0 a0 c0 e0 j0 x1 a1 c1 e1 u1 x2 a2 c2 e2 u2 W l0 b0 r_0 l1 r_1 m1 z1 l2 r_2 m2 z2 hro).mono fun e W' ⟨he, bel⟩ => ?_
  subst he
  exact ⟨_, rfl, _, _, _, [], _, [], hW', trodAll_mk1 (shut_bool Tryd.underlying4 _), (trodAll_cons_mk (Below.trod Laid.laidOut (by kernel_rfl) (of_decide_eq_true (by kernel_rfl)) k0 bel lt0) (trodAll_cons_mk (Below.trod Laid.laidOut (by kernel_rfl) (of_decide_eq_true (by kernel_rfl)) k1 bel lt1) (trodAll_cons_mk (Below.trod Laid.laidOut (by kernel_rfl) (of_decide_eq_true (by kernel_rfl)) k2 bel lt2) trodAll_mk0))), rfl, bel.frame _, fun h => by cases h⟩

theorem over : Rows.sieveJoinsRow.holds Tryd.pinned (OpenSpec.ofChange Rows.sieveJoinsSpec) :=
  OpenClaim.holds_of_wide 6 Tryd.f6 rfl rfl rfl rfl rfl rfl rfl ⟨rfl, rfl, rfl, rfl, rfl⟩ rfl rfl rfl rfl rfl (by kernel_rfl) Tryd.func6 (by kernel_rfl)
    (of_decide_eq_true (by kernel_rfl)) (by unfold Func.isWrapper; first | (rw [if_pos (by decide +kernel)]; kernel_rfl) | (rw [if_neg (by decide +kernel)]; exact ⟨rfl, rfl⟩))
    (fun os started H enc _ => lifted os started H enc)

theorem proved : Rows.SieveJoinsCardSaid :=
  Claim7.holds_tied_plain_at .later [] [.data] true (true, "d9367f1a9ac0cc7a5f16b7a4c9fa57317a5d4c7769de09c3b166420cc346acc4") true
    over (fun _ h => by cases h) (by kernel_rfl) (fun _ h => by cases h) sieveJoins_row_tie rfl ⟨rfl, rfl⟩ (by kernel_rfl) rfl
    (fun f fn hf hfn => by
      obtain rfl : f = 6 := Option.some.inj ((show Tryd.prog.funcNamed "oathbook/oathbooklaw4.SieveJoins" = some 6 by kernel_rfl).symm.trans hf) |>.symm
      obtain rfl : fn = Tryd.f6 := (Option.some.inj (Tryd.func6.symm.trans hfn)).symm
      exact ⟨by kernel_rfl, stand_of_all (by kernel_rfl)⟩)
    (by kernel_rfl)
#print axioms proved
end sieveJoins
end Go.Proofs.YtgngbmmmoecohaaDoor
