/- The law of EnvelopeOf returns true for every input: the program's EnvelopeOf and the reference's return the same. No condition: every argument that can be read. -/
import Derived.Test.YtfbcnojnpjbghaaEz
import Derived.Test.YtfbcnojnpjbghaaGn
import Derived.Test.YtfbcnojnpjbghaaAr
import Derived.ProofKit
import Derived.Deep.RegionHeld3
import Derived.ChangeOld
namespace Go.Proofs.Ytfbcnojnpjbghaa
open Go.ChangeShapes Go.WideShapes Go.ChangeAt Go.RowKit
namespace fnExactEnvelopeOf
set_option linter.unusedVariables false
theorem walk (A0 : Option Addr) (n0 cp0 : Nat) (xs0 : List T3) (a1 : Int) (a2 : Int) (w : World) (r0 : RdL c3 3 w w.heap.size A0 n0 cp0 xs0) (g0 : ∀ x ∈ xs0, ok3 x) (g1 : I64 a1) (g2 : I64 a2) :
    Calls Try.prog 5 #[.slice A0 n0 cp0, .int .i64 a1, .int .i64 a2] w fun e w' => e = .returned (.bool true) ∧ Below w.heap.size w w' := by
  have m0 : n0 ≤ 9223372036854775807 := Nat.le_trans r0.cap r0.capm
  by_cases hbig : n0 ≤ 1048576
  · have hn0 : n0 ≤ 1048576 := by omega
    go_enter Try.func5, Try.ntmps5
    go_wp2_with fail
    have B0 : Below w.heap.size w w := Below.refl _ _
    with_reducible refine (szFeatS_yes _ _ _ _ _ (by omega) (by omega) (by omega) (by omega)).mono ?_
    rintro e w' ⟨rfl, rfl⟩
    go_wp2_with fail
    with_reducible refine (toFeatS_any A0 n0 cp0 xs0 _ (r0.on B0) hn0).mono ?_
    rintro e w1 ⟨rfl, ow1, hbw1⟩
    have zw1 := hbw1.size
    replace B0 := below_on hbw1 B0
    have Bw1 : Below w1.heap.size w1 w1 := Below.refl _ _
    go_wp2_with fail
    with_reducible refine (sEnvelope_any _ _ _ xs0 a1 a2 _ ((RdL.of_own r0.len ow1).on Bw1) hn0).mono ?_
    rintro e w2 ⟨Aw2, Bw2_, Cw2, Dw2, caw2, cbw2, ccw2, cdw2, Nw2, rfl, rw2, pw2, hbw2⟩
    have zw2 := hbw2.size
    replace B0 := below_on hbw2 B0
    replace Bw1 := below_on hbw2 Bw1
    have Bw2 : Below w2.heap.size w2 w2 := Below.refl _ _
    clear Bw1
    go_wp2_with fail
    generalize hW : w2.alloc (.cells #[.slice Aw2 Nw2 caw2, .slice Bw2_ Nw2 cbw2, .slice Cw2 Nw2 ccw2, .slice Dw2 Nw2 cdw2] 35) = w3
    have hbw3 : Below w2.heap.size w2 w3 := by rw [← hW]; exact (Below.refl _ _).alloc (Nat.le_refl _) _
    have Jw3 : Blk w3 w2.heap.size 35 #[.slice Aw2 Nw2 caw2, .slice Bw2_ Nw2 cbw2, .slice Cw2 Nw2 ccw2, .slice Dw2 Nw2 cdw2] := by rw [← hW]; exact Blk.new _ _ _
    clear hW
    have zw3 := hbw3.size
    replace B0 := below_on hbw3 B0
    replace Bw2 := below_on hbw3 Bw2
    have Bw3 : Below w3.heap.size w3 w3 := Below.refl _ _
    with_reducible refine (toFeatS_any A0 n0 cp0 xs0 _ (r0.on B0) hn0).mono ?_
    rintro e w4 ⟨rfl, ow4, hbw4⟩
    have zw4 := hbw4.size
    replace B0 := below_on hbw4 B0
    replace Bw2 := below_on hbw4 Bw2
    replace Bw3 := below_on hbw4 Bw3
    have Bw4 : Below w4.heap.size w4 w4 := Below.refl _ _
    go_wp2_with fail
    with_reducible refine (iEnvelope_any _ _ _ xs0 a1 a2 _ ((RdL.of_own r0.len ow4).on Bw4) hn0).mono ?_
    rintro e w5 ⟨Aw5, Bw5_, Cw5, Dw5, caw5, cbw5, ccw5, cdw5, Nw5, rfl, rw5, pw5, hbw5⟩
    have zw5 := hbw5.size
    replace B0 := below_on hbw5 B0
    replace Bw2 := below_on hbw5 Bw2
    replace Bw3 := below_on hbw5 Bw3
    replace Bw4 := below_on hbw5 Bw4
    have Bw5 : Below w5.heap.size w5 w5 := Below.refl _ _
    have kk0 := (Jw3.on Bw3)
    have kc0_0 := kk0.cell 0
    have kc0_1 := kk0.cell 1
    have kc0_2 := kk0.cell 2
    have kc0_3 := kk0.cell 3
    simp only [List.getElem?_toArray, List.getElem?_cons_succ, List.getElem?_cons_zero] at kc0_0 kc0_1 kc0_2 kc0_3
    have kz0 := kk0.lt
    go_wp2_with fail
    clear kk0 kz0 kc0_0 kc0_1 kc0_2 kc0_3
    generalize hW : w5.alloc (.cells #[.slice Aw5 Nw5 caw5, .slice Bw5_ Nw5 cbw5, .slice Cw5 Nw5 ccw5, .slice Dw5 Nw5 cdw5] 35) = w6
    have hbw6 : Below w5.heap.size w5 w6 := by rw [← hW]; exact (Below.refl _ _).alloc (Nat.le_refl _) _
    have Jw6 : Blk w6 w5.heap.size 35 #[.slice Aw5 Nw5 caw5, .slice Bw5_ Nw5 cbw5, .slice Cw5 Nw5 ccw5, .slice Dw5 Nw5 cdw5] := by rw [← hW]; exact Blk.new _ _ _
    clear hW
    have zw6 := hbw6.size
    replace B0 := below_on hbw6 B0
    replace Bw2 := below_on hbw6 Bw2
    replace Bw3 := below_on hbw6 Bw3
    replace Bw4 := below_on hbw6 Bw4
    replace Bw5 := below_on hbw6 Bw5
    have Bw6 : Below w6.heap.size w6 w6 := Below.refl _ _
    with_reducible refine (eqEnv_yes _ _ _ _ _ _ _ _ _ _ _ _ _ _ _ _ _ _ _ _ _ _ _ _  _ _ _ _ _ (rw5.a.on Bw5) (rw5.b.on Bw5) (rw5.c.on Bw5) (rw5.d.on Bw5) (rw2.a.on Bw2) (rw2.b.on Bw2) (rw2.c.on Bw2) (rw2.d.on Bw2) (by omega) (by omega) (by omega) (by omega)).mono ?_
    rintro e w7 ⟨rfl, hbw7⟩
    have zw7 := hbw7.size
    replace B0 := below_on hbw7 B0
    replace Bw2 := below_on hbw7 Bw2
    replace Bw3 := below_on hbw7 Bw3
    replace Bw4 := below_on hbw7 Bw4
    replace Bw5 := below_on hbw7 Bw5
    replace Bw6 := below_on hbw7 Bw6
    go_wp2_with fail
    with_reducible refine (toFeatS_any A0 n0 cp0 xs0 _ (r0.on B0) hn0).mono ?_
    rintro e w8 ⟨rfl, ow8, hbw8⟩
    have zw8 := hbw8.size
    replace B0 := below_on hbw8 B0
    replace Bw2 := below_on hbw8 Bw2
    replace Bw3 := below_on hbw8 Bw3
    replace Bw4 := below_on hbw8 Bw4
    replace Bw5 := below_on hbw8 Bw5
    replace Bw6 := below_on hbw8 Bw6
    have Bw8 : Below w8.heap.size w8 w8 := Below.refl _ _
    go_wp2_with fail
    with_reducible refine (eqFeatS_yes _ _ _ _ _ _ _ _ ((RdL.of_own r0.len ow4).on Bw4) ((RdL.of_own r0.len ow8).on Bw8) hn0).mono ?_
    rintro e w9 ⟨rfl, hbw9⟩
    have zw9 := hbw9.size
    replace B0 := below_on hbw9 B0
    replace Bw2 := below_on hbw9 Bw2
    replace Bw3 := below_on hbw9 Bw3
    replace Bw4 := below_on hbw9 Bw4
    replace Bw5 := below_on hbw9 Bw5
    replace Bw6 := below_on hbw9 Bw6
    replace Bw8 := below_on hbw9 Bw8
    go_wp2_with fail
    with_reducible refine (markFeatS_any _ _ _ _ _ _ _ (own_below ow4 Bw4) hn0 (by omega) (by omega)).mono ?_
    rintro e w10 ⟨rfl, ow10, hgw10⟩
    have zw10 := hgw10.size
    replace B0 := B0.grown hgw10 B0.size (fun q hq => by have := (ow4).lt q hq; have := (ow4).lt q hq; omega)
    replace Bw2 := Bw2.grown hgw10 Bw2.size (fun q hq => by have := (ow4).lt q hq; have := (ow4).lt q hq; omega)
    replace Bw3 := Bw3.grown hgw10 Bw3.size (fun q hq => by have := (ow4).lt q hq; have := (ow4).lt q hq; omega)
    have ow10G := (rw5.on Bw5).kept hgw10 (fun q hq => by have := (ow4).lt q hq; have := (ow4).lt q hq; omega)
    have Kw10G := (Jw6.on Bw6).kept hgw10 (fun q hq => by have := (ow4).lt q hq; have := (ow4).lt q hq; omega)
    clear Bw4
    clear Bw5
    clear Bw6
    clear Bw8
    have Bw10 : Below w10.heap.size w10 w10 := Below.refl _ _
    have kk0 := (Kw10G.on Bw10)
    have kc0_0 := kk0.cell 0
    have kc0_1 := kk0.cell 1
    have kc0_2 := kk0.cell 2
    have kc0_3 := kk0.cell 3
    simp only [List.getElem?_toArray, List.getElem?_cons_succ, List.getElem?_cons_zero] at kc0_0 kc0_1 kc0_2 kc0_3
    have kz0 := kk0.lt
    have kk1 := (Jw3.on Bw3)
    have kc1_0 := kk1.cell 0
    have kc1_1 := kk1.cell 1
    have kc1_2 := kk1.cell 2
    have kc1_3 := kk1.cell 3
    simp only [List.getElem?_toArray, List.getElem?_cons_succ, List.getElem?_cons_zero] at kc1_0 kc1_1 kc1_2 kc1_3
    have kz1 := kk1.lt
    go_wp2_with fail
    clear kk0 kz0 kc0_0 kc0_1 kc0_2 kc0_3 kk1 kz1 kc1_0 kc1_1 kc1_2 kc1_3
    with_reducible refine (eqEnv_yes _ _ _ _ _ _ _ _ _ _ _ _ _ _ _ _ _ _ _ _ _ _ _ _  _ _ _ _ _ (ow10G.a.on Bw10) (ow10G.b.on Bw10) (ow10G.c.on Bw10) (ow10G.d.on Bw10) (rw2.a.on Bw2) (rw2.b.on Bw2) (rw2.c.on Bw2) (rw2.d.on Bw2) (by omega) (by omega) (by omega) (by omega)).mono ?_
    rintro e w11 ⟨rfl, hbw11⟩
    have zw11 := hbw11.size
    replace B0 := below_on hbw11 B0
    replace Bw2 := below_on hbw11 Bw2
    replace Bw3 := below_on hbw11 Bw3
    replace Bw10 := below_on hbw11 Bw10
    have kk0 := (Kw10G.on Bw10)
    have kc0_0 := kk0.cell 0
    have kc0_1 := kk0.cell 1
    have kc0_2 := kk0.cell 2
    have kc0_3 := kk0.cell 3
    simp only [List.getElem?_toArray, List.getElem?_cons_succ, List.getElem?_cons_zero] at kc0_0 kc0_1 kc0_2 kc0_3
    have kz0 := kk0.lt
    go_wp2_with fail
    clear kk0 kz0 kc0_0 kc0_1 kc0_2 kc0_3
    with_reducible refine (markEnv_any _ _ _ _ _ _ _ _ _ _ _ _ _ _ _ _ (ow10G.on Bw10) pw5 (by omega) (by omega) (by omega)).mono ?_
    rintro e w12 ⟨rfl, rw12, hcw12, hkw12⟩
    have zw12 := hcw12.size
    replace B0 := B0.trans (hcw12.mono (by omega))
    replace Bw2 := Bw2.trans (hcw12.mono (by omega))
    replace Bw3 := Bw3.trans (hcw12.mono (by omega))
    have Kw12G := hkw12 _ _ _ (Kw10G.on Bw10) (fun a h => by have := (rw5.own.1 a h).2; omega) (fun a h => by have := (rw5.own.2.1 a h).2; omega) (fun a h => by have := (rw5.own.2.2.1 a h).2; omega) (fun a h => by have := (rw5.own.2.2.2 a h).2; omega)
    clear Bw10
    have Bw12 : Below w12.heap.size w12 w12 := Below.refl _ _
    have kk0 := (Kw12G.on Bw12)
    have kc0_0 := kk0.cell 0
    have kc0_1 := kk0.cell 1
    have kc0_2 := kk0.cell 2
    have kc0_3 := kk0.cell 3
    simp only [List.getElem?_toArray, List.getElem?_cons_succ, List.getElem?_cons_zero] at kc0_0 kc0_1 kc0_2 kc0_3
    have kz0 := kk0.lt
    go_wp2_with fail
    clear kk0 kz0 kc0_0 kc0_1 kc0_2 kc0_3
    with_reducible refine (heldEnv_any _ _ _ _ _ _ _ _ _  _ _ (rw12.a.on Bw12) (rw12.b.on Bw12) (rw12.c.on Bw12) (rw12.d.on Bw12) pw5 (by omega) (by omega)).mono ?_
    rintro e w13 ⟨rfl, hbw13⟩
    have zw13 := hbw13.size
    replace B0 := below_on hbw13 B0
    replace Bw2 := below_on hbw13 Bw2
    replace Bw3 := below_on hbw13 Bw3
    replace Bw12 := below_on hbw13 Bw12
    go_wp2_with fail
    with_reducible refine (toFeatS_any A0 n0 cp0 xs0 _ (r0.on B0) hn0).mono ?_
    rintro e w14 ⟨rfl, ow14, hbw14⟩
    have zw14 := hbw14.size
    replace B0 := below_on hbw14 B0
    replace Bw2 := below_on hbw14 Bw2
    replace Bw3 := below_on hbw14 Bw3
    replace Bw12 := below_on hbw14 Bw12
    have Bw14 : Below w14.heap.size w14 w14 := Below.refl _ _
    go_wp2_with fail
    with_reducible refine (iEnvelope_any _ _ _ xs0 a1 a2 _ ((RdL.of_own r0.len ow14).on Bw14) hn0).mono ?_
    rintro e w15 ⟨Aw15, Bw15_, Cw15, Dw15, caw15, cbw15, ccw15, cdw15, Nw15, rfl, rw15, pw15, hbw15⟩
    have zw15 := hbw15.size
    replace B0 := below_on hbw15 B0
    replace Bw2 := below_on hbw15 Bw2
    replace Bw3 := below_on hbw15 Bw3
    replace Bw12 := below_on hbw15 Bw12
    replace Bw14 := below_on hbw15 Bw14
    have Bw15 : Below w15.heap.size w15 w15 := Below.refl _ _
    have kk0 := (Jw3.on Bw3)
    have kc0_0 := kk0.cell 0
    have kc0_1 := kk0.cell 1
    have kc0_2 := kk0.cell 2
    have kc0_3 := kk0.cell 3
    simp only [List.getElem?_toArray, List.getElem?_cons_succ, List.getElem?_cons_zero] at kc0_0 kc0_1 kc0_2 kc0_3
    have kz0 := kk0.lt
    go_wp2_with fail
    clear kk0 kz0 kc0_0 kc0_1 kc0_2 kc0_3
    generalize hW : w15.alloc (.cells #[.slice Aw15 Nw15 caw15, .slice Bw15_ Nw15 cbw15, .slice Cw15 Nw15 ccw15, .slice Dw15 Nw15 cdw15] 35) = w16
    have hbw16 : Below w15.heap.size w15 w16 := by rw [← hW]; exact (Below.refl _ _).alloc (Nat.le_refl _) _
    have Jw16 : Blk w16 w15.heap.size 35 #[.slice Aw15 Nw15 caw15, .slice Bw15_ Nw15 cbw15, .slice Cw15 Nw15 ccw15, .slice Dw15 Nw15 cdw15] := by rw [← hW]; exact Blk.new _ _ _
    clear hW
    have zw16 := hbw16.size
    replace B0 := below_on hbw16 B0
    replace Bw2 := below_on hbw16 Bw2
    replace Bw3 := below_on hbw16 Bw3
    replace Bw12 := below_on hbw16 Bw12
    replace Bw14 := below_on hbw16 Bw14
    replace Bw15 := below_on hbw16 Bw15
    have Bw16 : Below w16.heap.size w16 w16 := Below.refl _ _
    with_reducible refine (eqEnv_yes _ _ _ _ _ _ _ _ _ _ _ _ _ _ _ _ _ _ _ _ _ _ _ _  _ _ _ _ _ (rw15.a.on Bw15) (rw15.b.on Bw15) (rw15.c.on Bw15) (rw15.d.on Bw15) (rw2.a.on Bw2) (rw2.b.on Bw2) (rw2.c.on Bw2) (rw2.d.on Bw2) (by omega) (by omega) (by omega) (by omega)).mono ?_
    rintro e w17 ⟨rfl, hbw17⟩
    have zw17 := hbw17.size
    replace B0 := below_on hbw17 B0
    replace Bw2 := below_on hbw17 Bw2
    replace Bw3 := below_on hbw17 Bw3
    replace Bw12 := below_on hbw17 Bw12
    replace Bw14 := below_on hbw17 Bw14
    replace Bw15 := below_on hbw17 Bw15
    replace Bw16 := below_on hbw17 Bw16
    have kk0 := (Kw12G.on Bw12)
    have kc0_0 := kk0.cell 0
    have kc0_1 := kk0.cell 1
    have kc0_2 := kk0.cell 2
    have kc0_3 := kk0.cell 3
    simp only [List.getElem?_toArray, List.getElem?_cons_succ, List.getElem?_cons_zero] at kc0_0 kc0_1 kc0_2 kc0_3
    have kz0 := kk0.lt
    go_wp2_with fail
    clear kk0 kz0 kc0_0 kc0_1 kc0_2 kc0_3
    with_reducible refine (heldEnv_any _ _ _ _ _ _ _ _ _  _ _ (rw12.a.on Bw12) (rw12.b.on Bw12) (rw12.c.on Bw12) (rw12.d.on Bw12) pw5 (by omega) (by omega)).mono ?_
    rintro e w18 ⟨rfl, hbw18⟩
    have zw18 := hbw18.size
    replace B0 := below_on hbw18 B0
    replace Bw2 := below_on hbw18 Bw2
    replace Bw3 := below_on hbw18 Bw3
    replace Bw12 := below_on hbw18 Bw12
    replace Bw14 := below_on hbw18 Bw14
    replace Bw15 := below_on hbw18 Bw15
    replace Bw16 := below_on hbw18 Bw16
    go_wp2
    go_ret
    exact ⟨rfl, B0⟩
  · go_enter Try.func5, Try.ntmps5
    go_wp2_with fail
    have B0 : Below w.heap.size w w := Below.refl _ _
    with_reducible refine (szFeatS_no _ _ _ _ _ (by omega) (by omega) (by omega) (by omega)).mono ?_
    rintro e w' ⟨rfl, rfl⟩
    go_wp2
    go_ret
    exact ⟨rfl, B0⟩

/-! ### From the walk to the statement -/
set_option maxRecDepth 100000 in
theorem lifted (os : Os) (started : os.Started) (H : Type) (enc : TypeId × Value → H) :
    ReturnsInHanded {} Try.checked os 5 .any (Rows.fnExactEnvelopeOfSpec.pre6 enc Try.prog Try.f5 Rows.fnExactEnvelopeOfRow.domain false) (Rows.fnExactEnvelopeOfSpec.post enc Try.prog Try.f5 false true false false) := by
  refine returnsInHanded_of_change (C := Try.checked) Try.own started (by kernel_rfl) Try.func5
    (ChangeSpec.witness6 (enc := enc) (C := Try.checked) false ⟨#[], #[.slice none 0 0, .int .i64 0, .int .i64 0], []⟩ 8 (by kernel_rfl) (by kernel_rfl) (by kernel_rfl) (by kernel_rfl)) ?_
  intro W base args ds gs before hval0 hW hcnd _
  have hval : ∀ (j : Nat) t v, Try.f5.params[j]? = some t → args[j]? = some v → Value.okWide Try.prog W .any base t v := hval0
  have hW' := hW
  obtain ⟨p, q, hA0, hV, rfl, hfz, hnd⟩ := hW
  have hA : DataW.TrodAll enc Try.prog W 0 (fun _ => true) true Try.f5.params.toList args.toList ds p := hA0
  rw [Try.params5] at hA hval
  obtain ⟨v0, vs0, d0, ds0, p0, q0, hargs, rfl, rfl, h0, tr0⟩ := trodAll_cons hA
  obtain ⟨v1, vs1, d1, ds1, p1, q1, rfl, rfl, rfl, h1, tr1⟩ := trodAll_cons tr0
  obtain ⟨v2, vs2, d2, ds2, p2, q2, rfl, rfl, rfl, h2, tr2⟩ := trodAll_cons tr1
  obtain ⟨rfl, rfl, rfl⟩ := trodAll_nil tr2
  obtain rfl : args = #[v0, v1, v2] := by cases args; simp_all
  obtain ⟨rfl, rfl⟩ := trodVars_none hV
  have k0 := h0
  have lt0 : ∀ x ∈ p0, x.block < W.heap.size := by obtain ⟨m, hm⟩ := k0; exact DataW.trod_lt m _ _ _ hm
  obtain ⟨A0, n0, cp0, xs0, rfl, r0, g0⟩ := opFeats (hval 0 22 v0 rfl rfl) h0
  have k1 := h1
  have lt1 : ∀ x ∈ p1, x.block < W.heap.size := by obtain ⟨m, hm⟩ := k1; exact DataW.trod_lt m _ _ _ hm
  obtain ⟨a1, rfl, g1⟩ := opI64 (hval 1 2 v1 rfl rfl) h1
  have k2 := h2
  have lt2 : ∀ x ∈ p2, x.block < W.heap.size := by obtain ⟨m, hm⟩ := k2; exact DataW.trod_lt m _ _ _ hm
  obtain ⟨a2, rfl, g2⟩ := opI64 (hval 2 2 v2 rfl rfl) h2
  clear hA0 hval0
  refine (walk A0 n0 cp0 xs0 a1 a2 W r0 g0 g1 g2).mono fun e W' ⟨he, bel⟩ => ?_
  subst he
  exact ⟨_, rfl, _, _, _, [], _, [], hW', trodAll_mk1 (shut_bool Try.underlying4 _), (trodAll_cons_mk (Below.trod Try.laidOut (by kernel_rfl) (of_decide_eq_true (by kernel_rfl)) k0 bel lt0) (trodAll_cons_mk (Below.trod Try.laidOut (by kernel_rfl) (of_decide_eq_true (by kernel_rfl)) k1 bel lt1) (trodAll_cons_mk (Below.trod Try.laidOut (by kernel_rfl) (of_decide_eq_true (by kernel_rfl)) k2 bel lt2) trodAll_mk0))), rfl, bel.frame _, fun h => by cases h⟩

theorem over : Rows.fnExactEnvelopeOfRow.holds Try.pinned (OpenSpec.ofChange Rows.fnExactEnvelopeOfSpec) :=
  OpenClaim.holds_of_wide 5 Try.f5 rfl rfl rfl rfl rfl rfl rfl ⟨rfl, rfl, rfl, rfl, rfl⟩ rfl rfl rfl rfl rfl (by kernel_rfl) Try.func5 (by kernel_rfl)
    (of_decide_eq_true (by kernel_rfl)) (by unfold Func.isWrapper; first | (rw [if_pos (by decide +kernel)]; kernel_rfl) | (rw [if_neg (by decide +kernel)]; exact ⟨rfl, rfl⟩))
    (fun os started H enc _ => lifted os started H enc)

theorem proved : Rows.FnExactEnvelopeOfSaid := over
end fnExactEnvelopeOf
end Go.Proofs.Ytfbcnojnpjbghaa
