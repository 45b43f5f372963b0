/- The law of BlendFeats returns true for every input: the program's BlendFeats and the reference's return the same. No condition: every argument that can be read. -/
import Derived.Test.YtlodiniohfhnpaaBf
import Derived.Test.YtlodiniohfhnpaaAr
import Derived.ProofKit
import Derived.Deep.RegionHeld3
import Derived.ChangeOld
namespace Go.Proofs.Ytlodiniohfhnpaa
open Go.ChangeShapes Go.WideShapes Go.ChangeAt Go.RowKit
namespace fnExactBlendFeats
set_option linter.unusedVariables false
theorem walk (A0 : Option Addr) (n0 cp0 : Nat) (xs0 : List T3) (A1 : Option Addr) (n1 cp1 : Nat) (xs1 : List T3) (A2 : Option Addr) (n2 cp2 : Nat) (xs2 : List T2) (w : World) (r0 : RdL c3 3 w w.heap.size A0 n0 cp0 xs0) (g0 : ∀ x ∈ xs0, ok3 x) (r1 : RdL c3 3 w w.heap.size A1 n1 cp1 xs1) (g1 : ∀ x ∈ xs1, ok3 x) (r2 : RdL c2 2 w w.heap.size A2 n2 cp2 xs2) (g2 : ∀ x ∈ xs2, ok2 x) :
    Calls Try.prog 8 #[.slice A0 n0 cp0, .slice A1 n1 cp1, .slice A2 n2 cp2] w fun e w' => e = .returned (.bool true) ∧ Below w.heap.size w w' := by
  have m0 : n0 ≤ 9223372036854775807 := Nat.le_trans r0.cap r0.capm
  have m1 : n1 ≤ 9223372036854775807 := Nat.le_trans r1.cap r1.capm
  have m2 : n2 ≤ 9223372036854775807 := Nat.le_trans r2.cap r2.capm
  by_cases hbig : n0 + n1 + n2 ≤ 1048576
  · have hn0 : n0 ≤ 1048576 := by omega
    have hn1 : n1 ≤ 1048576 := by omega
    have hn2 : n2 ≤ 1048576 := by omega
    go_enter Try.func8, Try.ntmps8
    go_wp2_with fail
    have B0 : Below w.heap.size w w := Below.refl _ _
    with_reducible refine (szFeatS_yes _ _ _ _ _ (by omega) (by omega) (by omega) (by omega)).mono ?_
    rintro e w' ⟨rfl, rfl⟩
    go_wp2_with fail
    with_reducible refine (szFeatS_yes _ _ _ _ _ (by omega) (by omega) (by omega) (by omega)).mono ?_
    rintro e w' ⟨rfl, rfl⟩
    go_wp2_with fail
    with_reducible refine (szPairS_yes _ _ _ _ _ (by omega) (by omega) (by omega) (by omega)).mono ?_
    rintro e w' ⟨rfl, rfl⟩
    go_wp2_with fail
    with_reducible refine (toFeatS_any A0 n0 cp0 xs0 _ (r0.on B0) hn0).mono ?_
    rintro e w1 ⟨rfl, ow1, hbw1⟩
    have zw1 := hbw1.size
    replace B0 := below_on hbw1 B0
    have Bw1 : Below w1.heap.size w1 w1 := Below.refl _ _
    go_wp2_with fail
    with_reducible refine (toFeatS_any A1 n1 cp1 xs1 _ (r1.on B0) hn1).mono ?_
    rintro e w2 ⟨rfl, ow2, hbw2⟩
    have zw2 := hbw2.size
    replace B0 := below_on hbw2 B0
    replace Bw1 := below_on hbw2 Bw1
    have Bw2 : Below w2.heap.size w2 w2 := Below.refl _ _
    go_wp2_with fail
    with_reducible refine (toPairS_any A2 n2 cp2 xs2 _ (r2.on B0) hn2).mono ?_
    rintro e w3 ⟨rfl, ow3, hbw3⟩
    have zw3 := hbw3.size
    replace B0 := below_on hbw3 B0
    replace Bw1 := below_on hbw3 Bw1
    replace Bw2 := below_on hbw3 Bw2
    have Bw3 : Below w3.heap.size w3 w3 := Below.refl _ _
    go_wp2_with fail
    with_reducible refine (sBlend_any _ _ _ _ _ _ _ _ _ xs0 xs1 xs2 _ ((RdL.of_own r0.len ow1).on Bw1) ((RdL.of_own r1.len ow2).on Bw2) ((RdL.of_own r2.len ow3).on Bw3) hn0 hn1 hn2 g2).mono ?_
    rintro e w4 ⟨Aw4, nw4, cw4, rfl, ow4, lw4, pw4, hbw4⟩
    have zw4 := hbw4.size
    replace B0 := below_on hbw4 B0
    replace Bw1 := below_on hbw4 Bw1
    replace Bw2 := below_on hbw4 Bw2
    replace Bw3 := below_on hbw4 Bw3
    have Bw4 : Below w4.heap.size w4 w4 := Below.refl _ _
    clear Bw1
    clear Bw2
    clear Bw3
    go_wp2_with fail
    with_reducible refine (toFeatS_any A0 n0 cp0 xs0 _ (r0.on B0) hn0).mono ?_
    rintro e w5 ⟨rfl, ow5, hbw5⟩
    have zw5 := hbw5.size
    replace B0 := below_on hbw5 B0
    replace Bw4 := below_on hbw5 Bw4
    have Bw5 : Below w5.heap.size w5 w5 := Below.refl _ _
    go_wp2_with fail
    with_reducible refine (toFeatS_any A1 n1 cp1 xs1 _ (r1.on B0) hn1).mono ?_
    rintro e w6 ⟨rfl, ow6, hbw6⟩
    have zw6 := hbw6.size
    replace B0 := below_on hbw6 B0
    replace Bw4 := below_on hbw6 Bw4
    replace Bw5 := below_on hbw6 Bw5
    have Bw6 : Below w6.heap.size w6 w6 := Below.refl _ _
    go_wp2_with fail
    with_reducible refine (toPairS_any A2 n2 cp2 xs2 _ (r2.on B0) hn2).mono ?_
    rintro e w7 ⟨rfl, ow7, hbw7⟩
    have zw7 := hbw7.size
    replace B0 := below_on hbw7 B0
    replace Bw4 := below_on hbw7 Bw4
    replace Bw5 := below_on hbw7 Bw5
    replace Bw6 := below_on hbw7 Bw6
    have Bw7 : Below w7.heap.size w7 w7 := Below.refl _ _
    go_wp2_with fail
    with_reducible refine (iBlend_any _ _ _ _ _ _ _ _ _ xs0 xs1 xs2 _ ((RdL.of_own r0.len ow5).on Bw5) ((RdL.of_own r1.len ow6).on Bw6) ((RdL.of_own r2.len ow7).on Bw7) hn0 hn1 hn2 g2).mono ?_
    rintro e w8 ⟨Aw8, nw8, cw8, rfl, ow8, lw8, pw8, hbw8⟩
    have zw8 := hbw8.size
    replace B0 := below_on hbw8 B0
    replace Bw4 := below_on hbw8 Bw4
    replace Bw5 := below_on hbw8 Bw5
    replace Bw6 := below_on hbw8 Bw6
    replace Bw7 := below_on hbw8 Bw7
    have Bw8 : Below w8.heap.size w8 w8 := Below.refl _ _
    go_wp2_with fail
    with_reducible refine (eqFeatS_yes _ _ _ _ _ _ _ _ ((RdL.of_own lw8 ow8).on Bw8) ((RdL.of_own lw4 ow4).on Bw4) pw8).mono ?_
    rintro e w9 ⟨rfl, hbw9⟩
    have zw9 := hbw9.size
    replace B0 := below_on hbw9 B0
    replace Bw4 := below_on hbw9 Bw4
    replace Bw5 := below_on hbw9 Bw5
    replace Bw6 := below_on hbw9 Bw6
    replace Bw7 := below_on hbw9 Bw7
    replace Bw8 := below_on hbw9 Bw8
    go_wp2_with fail
    with_reducible refine (toFeatS_any A0 n0 cp0 xs0 _ (r0.on B0) hn0).mono ?_
    rintro e w10 ⟨rfl, ow10, hbw10⟩
    have zw10 := hbw10.size
    replace B0 := below_on hbw10 B0
    replace Bw4 := below_on hbw10 Bw4
    replace Bw5 := below_on hbw10 Bw5
    replace Bw6 := below_on hbw10 Bw6
    replace Bw7 := below_on hbw10 Bw7
    replace Bw8 := below_on hbw10 Bw8
    have Bw10 : Below w10.heap.size w10 w10 := Below.refl _ _
    go_wp2_with fail
    with_reducible refine (eqFeatS_yes _ _ _ _ _ _ _ _ ((RdL.of_own r0.len ow5).on Bw5) ((RdL.of_own r0.len ow10).on Bw10) hn0).mono ?_
    rintro e w11 ⟨rfl, hbw11⟩
    have zw11 := hbw11.size
    replace B0 := below_on hbw11 B0
    replace Bw4 := below_on hbw11 Bw4
    replace Bw5 := below_on hbw11 Bw5
    replace Bw6 := below_on hbw11 Bw6
    replace Bw7 := below_on hbw11 Bw7
    replace Bw8 := below_on hbw11 Bw8
    replace Bw10 := below_on hbw11 Bw10
    go_wp2_with fail
    with_reducible refine (toFeatS_any A1 n1 cp1 xs1 _ (r1.on B0) hn1).mono ?_
    rintro e w12 ⟨rfl, ow12, hbw12⟩
    have zw12 := hbw12.size
    replace B0 := below_on hbw12 B0
    replace Bw4 := below_on hbw12 Bw4
    replace Bw5 := below_on hbw12 Bw5
    replace Bw6 := below_on hbw12 Bw6
    replace Bw7 := below_on hbw12 Bw7
    replace Bw8 := below_on hbw12 Bw8
    replace Bw10 := below_on hbw12 Bw10
    have Bw12 : Below w12.heap.size w12 w12 := Below.refl _ _
    go_wp2_with fail
    with_reducible refine (eqFeatS_yes _ _ _ _ _ _ _ _ ((RdL.of_own r1.len ow6).on Bw6) ((RdL.of_own r1.len ow12).on Bw12) hn1).mono ?_
    rintro e w13 ⟨rfl, hbw13⟩
    have zw13 := hbw13.size
    replace B0 := below_on hbw13 B0
    replace Bw4 := below_on hbw13 Bw4
    replace Bw5 := below_on hbw13 Bw5
    replace Bw6 := below_on hbw13 Bw6
    replace Bw7 := below_on hbw13 Bw7
    replace Bw8 := below_on hbw13 Bw8
    replace Bw10 := below_on hbw13 Bw10
    replace Bw12 := below_on hbw13 Bw12
    go_wp2_with fail
    with_reducible refine (toPairS_any A2 n2 cp2 xs2 _ (r2.on B0) hn2).mono ?_
    rintro e w14 ⟨rfl, ow14, hbw14⟩
    have zw14 := hbw14.size
    replace B0 := below_on hbw14 B0
    replace Bw4 := below_on hbw14 Bw4
    replace Bw5 := below_on hbw14 Bw5
    replace Bw6 := below_on hbw14 Bw6
    replace Bw7 := below_on hbw14 Bw7
    replace Bw8 := below_on hbw14 Bw8
    replace Bw10 := below_on hbw14 Bw10
    replace Bw12 := below_on hbw14 Bw12
    have Bw14 : Below w14.heap.size w14 w14 := Below.refl _ _
    go_wp2_with fail
    with_reducible refine (eqPairS_yes _ _ _ _ _ _ _ _ ((RdL.of_own r2.len ow7).on Bw7) ((RdL.of_own r2.len ow14).on Bw14) hn2).mono ?_
    rintro e w15 ⟨rfl, hbw15⟩
    have zw15 := hbw15.size
    replace B0 := below_on hbw15 B0
    replace Bw4 := below_on hbw15 Bw4
    replace Bw5 := below_on hbw15 Bw5
    replace Bw6 := below_on hbw15 Bw6
    replace Bw7 := below_on hbw15 Bw7
    replace Bw8 := below_on hbw15 Bw8
    replace Bw10 := below_on hbw15 Bw10
    replace Bw12 := below_on hbw15 Bw12
    replace Bw14 := below_on hbw15 Bw14
    go_wp2_with fail
    with_reducible refine (markFeatS_any _ _ _ _ _ _ _ (own_below ow5 Bw5) hn0 (by omega) (by omega)).mono ?_
    rintro e w16 ⟨rfl, ow16, hgw16⟩
    have zw16 := hgw16.size
    replace B0 := B0.grown hgw16 B0.size (fun q hq => by have := (ow5).lt q hq; have := (ow5).lt q hq; omega)
    replace Bw4 := Bw4.grown hgw16 Bw4.size (fun q hq => by have := (ow5).lt q hq; have := (ow5).lt q hq; omega)
    have ow16G := (own_below ow8 Bw8).kept hgw16 (own_ne ow8 (fun q hq => by have := (ow5).lt q hq; have := (ow5).lt q hq; omega))
    have ow16x1 := (own_below ow6 Bw6).kept hgw16 (own_ne ow6 (fun q hq => by have := (ow5).lt q hq; have := (ow5).lt q hq; omega))
    have ow16x2 := (own_below ow7 Bw7).kept hgw16 (own_ne ow7 (fun q hq => by have := (ow5).lt q hq; have := (ow5).lt q hq; omega))
    clear Bw5
    clear Bw6
    clear Bw7
    clear Bw8
    clear Bw10
    clear Bw12
    clear Bw14
    have Bw16 : Below w16.heap.size w16 w16 := Below.refl _ _
    go_wp2_with fail
    with_reducible refine (markFeatS_any _ _ _ _ _ _ _ (own_below ow16x1 Bw16) hn1 (by omega) (by omega)).mono ?_
    rintro e w17 ⟨rfl, ow17, hgw17⟩
    have zw17 := hgw17.size
    replace B0 := B0.grown hgw17 B0.size (fun q hq => by have := (ow16x1).lt q hq; have := (ow6).lt q hq; omega)
    replace Bw4 := Bw4.grown hgw17 Bw4.size (fun q hq => by have := (ow16x1).lt q hq; have := (ow6).lt q hq; omega)
    have ow17G := (own_below ow16G Bw16).kept hgw17 (own_ne ow16G (fun q hq => by have := (ow16x1).lt q hq; have := (ow6).lt q hq; omega))
    have ow17x2 := (own_below ow16x2 Bw16).kept hgw17 (own_ne ow16x2 (fun q hq => by have := (ow16x1).lt q hq; have := (ow6).lt q hq; omega))
    clear Bw16
    have Bw17 : Below w17.heap.size w17 w17 := Below.refl _ _
    go_wp2_with fail
    with_reducible refine (markPairS_any _ _ _ _ _ _ _ (own_below ow17x2 Bw17) hn2 (by omega) (by omega)).mono ?_
    rintro e w18 ⟨rfl, ow18, hgw18⟩
    have zw18 := hgw18.size
    replace B0 := B0.grown hgw18 B0.size (fun q hq => by have := (ow17x2).lt q hq; have := (ow7).lt q hq; omega)
    replace Bw4 := Bw4.grown hgw18 Bw4.size (fun q hq => by have := (ow17x2).lt q hq; have := (ow7).lt q hq; omega)
    have ow18G := (own_below ow17G Bw17).kept hgw18 (own_ne ow17G (fun q hq => by have := (ow17x2).lt q hq; have := (ow7).lt q hq; omega))
    clear Bw17
    have Bw18 : Below w18.heap.size w18 w18 := Below.refl _ _
    go_wp2_with fail
    with_reducible refine (eqFeatS_yes _ _ _ _ _ _ _ _ ((RdL.of_own lw8 ow18G).on Bw18) ((RdL.of_own lw4 ow4).on Bw4) pw8).mono ?_
    rintro e w19 ⟨rfl, hbw19⟩
    have zw19 := hbw19.size
    replace B0 := below_on hbw19 B0
    replace Bw4 := below_on hbw19 Bw4
    replace Bw18 := below_on hbw19 Bw18
    go_wp2_with fail
    with_reducible refine (markFeatS_any _ _ _ _ _ _ _ (own_below ow18G Bw18) pw8 (by omega) (by omega)).mono ?_
    rintro e w20 ⟨rfl, ow20, hgw20⟩
    have zw20 := hgw20.size
    replace B0 := B0.grown hgw20 B0.size (fun q hq => by have := (ow18G).lt q hq; have := (ow8).lt q hq; omega)
    replace Bw4 := Bw4.grown hgw20 Bw4.size (fun q hq => by have := (ow18G).lt q hq; have := (ow8).lt q hq; omega)
    clear Bw18
    have Bw20 : Below w20.heap.size w20 w20 := Below.refl _ _
    go_wp2_with fail
    with_reducible refine (heldFeatS_any _ _ _ _ _ ((RdL.of_own (marks3_len _ _) ow20).on Bw20) pw8 (by omega) (by omega)).mono ?_
    rintro e w21 ⟨rfl, hbw21⟩
    have zw21 := hbw21.size
    replace B0 := below_on hbw21 B0
    replace Bw4 := below_on hbw21 Bw4
    replace Bw20 := below_on hbw21 Bw20
    go_wp2_with fail
    with_reducible refine (toFeatS_any A0 n0 cp0 xs0 _ (r0.on B0) hn0).mono ?_
    rintro e w22 ⟨rfl, ow22, hbw22⟩
    have zw22 := hbw22.size
    replace B0 := below_on hbw22 B0
    replace Bw4 := below_on hbw22 Bw4
    replace Bw20 := below_on hbw22 Bw20
    have Bw22 : Below w22.heap.size w22 w22 := Below.refl _ _
    go_wp2_with fail
    with_reducible refine (toFeatS_any A1 n1 cp1 xs1 _ (r1.on B0) hn1).mono ?_
    rintro e w23 ⟨rfl, ow23, hbw23⟩
    have zw23 := hbw23.size
    replace B0 := below_on hbw23 B0
    replace Bw4 := below_on hbw23 Bw4
    replace Bw20 := below_on hbw23 Bw20
    replace Bw22 := below_on hbw23 Bw22
    have Bw23 : Below w23.heap.size w23 w23 := Below.refl _ _
    go_wp2_with fail
    with_reducible refine (toPairS_any A2 n2 cp2 xs2 _ (r2.on B0) hn2).mono ?_
    rintro e w24 ⟨rfl, ow24, hbw24⟩
    have zw24 := hbw24.size
    replace B0 := below_on hbw24 B0
    replace Bw4 := below_on hbw24 Bw4
    replace Bw20 := below_on hbw24 Bw20
    replace Bw22 := below_on hbw24 Bw22
    replace Bw23 := below_on hbw24 Bw23
    have Bw24 : Below w24.heap.size w24 w24 := Below.refl _ _
    go_wp2_with fail
    with_reducible refine (iBlend_any _ _ _ _ _ _ _ _ _ xs0 xs1 xs2 _ ((RdL.of_own r0.len ow22).on Bw22) ((RdL.of_own r1.len ow23).on Bw23) ((RdL.of_own r2.len ow24).on Bw24) hn0 hn1 hn2 g2).mono ?_
    rintro e w25 ⟨Aw25, nw25, cw25, rfl, ow25, lw25, pw25, hbw25⟩
    have zw25 := hbw25.size
    replace B0 := below_on hbw25 B0
    replace Bw4 := below_on hbw25 Bw4
    replace Bw20 := below_on hbw25 Bw20
    replace Bw22 := below_on hbw25 Bw22
    replace Bw23 := below_on hbw25 Bw23
    replace Bw24 := below_on hbw25 Bw24
    have Bw25 : Below w25.heap.size w25 w25 := Below.refl _ _
    go_wp2_with fail
    with_reducible refine (eqFeatS_yes _ _ _ _ _ _ _ _ ((RdL.of_own lw25 ow25).on Bw25) ((RdL.of_own lw4 ow4).on Bw4) pw25).mono ?_
    rintro e w26 ⟨rfl, hbw26⟩
    have zw26 := hbw26.size
    replace B0 := below_on hbw26 B0
    replace Bw4 := below_on hbw26 Bw4
    replace Bw20 := below_on hbw26 Bw20
    replace Bw22 := below_on hbw26 Bw22
    replace Bw23 := below_on hbw26 Bw23
    replace Bw24 := below_on hbw26 Bw24
    replace Bw25 := below_on hbw26 Bw25
    go_wp2_with fail
    with_reducible refine (heldFeatS_any _ _ _ _ _ ((RdL.of_own (marks3_len _ _) ow20).on Bw20) pw8 (by omega) (by omega)).mono ?_
    rintro e w27 ⟨rfl, hbw27⟩
    have zw27 := hbw27.size
    replace B0 := below_on hbw27 B0
    replace Bw4 := below_on hbw27 Bw4
    replace Bw20 := below_on hbw27 Bw20
    replace Bw22 := below_on hbw27 Bw22
    replace Bw23 := below_on hbw27 Bw23
    replace Bw24 := below_on hbw27 Bw24
    replace Bw25 := below_on hbw27 Bw25
    go_wp2
    go_ret
    exact ⟨rfl, B0⟩
  · by_cases hs0 : n0 ≤ 1048576
    · by_cases hs1 : n0 + n1 ≤ 1048576
      · go_enter Try.func8, Try.ntmps8
        go_wp2_with fail
        have B0 : Below w.heap.size w w := Below.refl _ _
        with_reducible refine (szFeatS_yes _ _ _ _ _ (by omega) (by omega) (by omega) (by omega)).mono ?_
        rintro e w' ⟨rfl, rfl⟩
        go_wp2_with fail
        with_reducible refine (szFeatS_yes _ _ _ _ _ (by omega) (by omega) (by omega) (by omega)).mono ?_
        rintro e w' ⟨rfl, rfl⟩
        go_wp2_with fail
        with_reducible refine (szPairS_no _ _ _ _ _ (by omega) (by omega) (by omega) (by omega)).mono ?_
        rintro e w' ⟨rfl, rfl⟩
        go_wp2
        go_ret
        exact ⟨rfl, B0⟩
      · go_enter Try.func8, Try.ntmps8
        go_wp2_with fail
        have B0 : Below w.heap.size w w := Below.refl _ _
        with_reducible refine (szFeatS_yes _ _ _ _ _ (by omega) (by omega) (by omega) (by omega)).mono ?_
        rintro e w' ⟨rfl, rfl⟩
        go_wp2_with fail
        with_reducible refine (szFeatS_no _ _ _ _ _ (by omega) (by omega) (by omega) (by omega)).mono ?_
        rintro e w' ⟨rfl, rfl⟩
        go_wp2
        go_ret
        exact ⟨rfl, B0⟩
    · go_enter Try.func8, Try.ntmps8
      go_wp2_with fail
      have B0 : Below w.heap.size w w := Below.refl _ _
      with_reducible refine (szFeatS_no _ _ _ _ _ (by omega) (by omega) (by omega) (by omega)).mono ?_
      rintro e w' ⟨rfl, rfl⟩
      go_wp2
      go_ret
      exact ⟨rfl, B0⟩

/-! ### From the walk to the statement -/
set_option maxRecDepth 100000 in
theorem lifted (os : Os) (started : os.Started) (H : Type) (enc : TypeId × Value → H) :
    ReturnsInHanded {} Try.checked os 8 .any (Rows.fnExactBlendFeatsSpec.pre6 enc Try.prog Try.f8 Rows.fnExactBlendFeatsRow.domain false) (Rows.fnExactBlendFeatsSpec.post enc Try.prog Try.f8 false true false false) := by
  refine returnsInHanded_of_change (C := Try.checked) Try.own started (by kernel_rfl) Try.func8
    (ChangeSpec.witness6 (enc := enc) (C := Try.checked) false ⟨#[], #[.slice none 0 0, .slice none 0 0, .slice none 0 0], []⟩ 8 (by kernel_rfl) (by kernel_rfl) (by kernel_rfl) (by kernel_rfl)) ?_
  intro W base args ds gs before hval0 hW hcnd _
  have hval : ∀ (j : Nat) t v, Try.f8.params[j]? = some t → args[j]? = some v → Value.okWide Try.prog W .any base t v := hval0
  have hW' := hW
  obtain ⟨p, q, hA0, hV, rfl, hfz, hnd⟩ := hW
  have hA : DataW.TrodAll enc Try.prog W 0 (fun _ => true) true Try.f8.params.toList args.toList ds p := hA0
  rw [Try.params8] at hA hval
  obtain ⟨v0, vs0, d0, ds0, p0, q0, hargs, rfl, rfl, h0, tr0⟩ := trodAll_cons hA
  obtain ⟨v1, vs1, d1, ds1, p1, q1, rfl, rfl, rfl, h1, tr1⟩ := trodAll_cons tr0
  obtain ⟨v2, vs2, d2, ds2, p2, q2, rfl, rfl, rfl, h2, tr2⟩ := trodAll_cons tr1
  obtain ⟨rfl, rfl, rfl⟩ := trodAll_nil tr2
  obtain rfl : args = #[v0, v1, v2] := by cases args; simp_all
  obtain ⟨rfl, rfl⟩ := trodVars_none hV
  have k0 := h0
  have lt0 : ∀ x ∈ p0, x.block < W.heap.size := by obtain ⟨m, hm⟩ := k0; exact DataW.trod_lt m _ _ _ hm
  obtain ⟨A0, n0, cp0, xs0, rfl, r0, g0⟩ := opFeats (hval 0 41 v0 rfl rfl) h0
  have k1 := h1
  have lt1 : ∀ x ∈ p1, x.block < W.heap.size := by obtain ⟨m, hm⟩ := k1; exact DataW.trod_lt m _ _ _ hm
  obtain ⟨A1, n1, cp1, xs1, rfl, r1, g1⟩ := opFeats (hval 1 41 v1 rfl rfl) h1
  have k2 := h2
  have lt2 : ∀ x ∈ p2, x.block < W.heap.size := by obtain ⟨m, hm⟩ := k2; exact DataW.trod_lt m _ _ _ hm
  obtain ⟨A2, n2, cp2, xs2, rfl, r2, g2⟩ := opPairs (hval 2 61 v2 rfl rfl) h2
  clear hA0 hval0
  refine (walk A0 n0 cp0 xs0 A1 n1 cp1 xs1 A2 n2 cp2 xs2 W r0 g0 r1 g1 r2 g2).mono fun e W' ⟨he, bel⟩ => ?_
  subst he
  exact ⟨_, rfl, _, _, _, [], _, [], hW', trodAll_mk1 (shut_bool Try.underlying4 _), (trodAll_cons_mk (Below.trod Try.laidOut (by kernel_rfl) (of_decide_eq_true (by kernel_rfl)) k0 bel lt0) (trodAll_cons_mk (Below.trod Try.laidOut (by kernel_rfl) (of_decide_eq_true (by kernel_rfl)) k1 bel lt1) (trodAll_cons_mk (Below.trod Try.laidOut (by kernel_rfl) (of_decide_eq_true (by kernel_rfl)) k2 bel lt2) trodAll_mk0))), rfl, bel.frame _, fun h => by cases h⟩

theorem over : Rows.fnExactBlendFeatsRow.holds Try.pinned (OpenSpec.ofChange Rows.fnExactBlendFeatsSpec) :=
  OpenClaim.holds_of_wide 8 Try.f8 rfl rfl rfl rfl rfl rfl rfl ⟨rfl, rfl, rfl, rfl, rfl⟩ rfl rfl rfl rfl rfl (by kernel_rfl) Try.func8 (by kernel_rfl)
    (of_decide_eq_true (by kernel_rfl)) (by unfold Func.isWrapper; first | (rw [if_pos (by decide +kernel)]; kernel_rfl) | (rw [if_neg (by decide +kernel)]; exact ⟨rfl, rfl⟩))
    (fun os started H enc _ => lifted os started H enc)

theorem proved : Rows.FnExactBlendFeatsSaid := over
end fnExactBlendFeats
end Go.Proofs.Ytlodiniohfhnpaa
