/- The law of FitInk returns true for every input: the program's FitInk and the reference's return the same. No condition: every argument that can be read. -/
import Derived.Test.YtbfilhpgekgmbaaNq
import Derived.Test.YtbfilhpgekgmbaaSf
import Derived.Test.YtbfilhpgekgmbaaGn
import Derived.Test.YtbfilhpgekgmbaaAr
import Derived.ProofKit
import Derived.Deep.RegionHeld3
import Derived.ChangeOld
namespace Go.Proofs.Ytbfilhpgekgmbaa
open Go.ChangeShapes Go.WideShapes Go.ChangeAt Go.RowKit
namespace fnExactFitInk
set_option linter.unusedVariables false
theorem walk (A0 : Option Addr) (n0 cp0 : Nat) (xs0 : List (List T3)) (a1 : Int) (w : World) (r0 : NL w w.heap.size A0 n0 cp0 xs0) (g0 : ∀ x ∈ xs0, ∀ q ∈ x, ok3 q) (g1 : I64 a1) :
    Calls Try.prog 4 #[.agg #[.slice A0 n0 cp0], .int .i64 a1] w fun e w' => e = .returned (.bool true) ∧ Below w.heap.size w w' := by
  have m0 : n0 ≤ 9223372036854775807 := Nat.le_trans r0.cap r0.capm
  by_cases hbig : totL xs0 ≤ 1048576
  · have htotL_xs0 : totL xs0 ≤ 1048576 := by omega
    go_enter Try.func4, Try.ntmps4
    go_wp2_with fail
    have B0 : Below w.heap.size w (w.alloc (.cells #[.slice A0 n0 cp0] 24)) := (by repeat (first | exact Below.refl _ _ | assumption | refine Below.drew ?_ | refine below_drewN ?_ _ | refine Below.alloc ?_ (by first | omega | (simp <;> omega)) _ | refine Below.setCell ?_ (by first | omega | (simp <;> omega)) _))
    have P0 : Blk (w.alloc (.cells #[.slice A0 n0 cp0] 24)) (w.heap.size) 24 #[.slice A0 n0 cp0] := by have hk := Blk.new w 24 #[.slice A0 n0 cp0]; simpa using hk
    generalize (w.alloc (.cells #[.slice A0 n0 cp0] 24)) = v at *
    have Bv : Below v.heap.size v v := Below.refl _ _
    have zv := B0.size
    with_reducible refine (szInk_yes _ _ _ xs0 _ _ (r0.on B0) (by omega) (by omega) (by omega)).mono ?_
    rintro e w1 ⟨rfl, hbw1⟩
    have zw1 := hbw1.size
    replace B0 := below_on hbw1 B0
    replace Bv := below_on hbw1 Bv
    have hzl : (0 : Int) ≤ 1048576 - (totL xs0 : Int) := by omega
    have kk0 := (P0.on Bv)
    have kc0_0 := kk0.cell 0
    simp only [List.getElem?_toArray, List.getElem?_cons_zero] at kc0_0
    have kz0 := kk0.lt
    go_wp2_with fail
    clear kk0 kz0 kc0_0
    with_reducible refine (toInk_own A0 n0 cp0 xs0 _ (r0.on B0) htotL_xs0).mono ?_
    rintro e w2 ⟨qw2, sw2, rfl, ow2, lw2, uw2, dw2, hbw2⟩
    have zw2 := hbw2.size
    replace B0 := below_on hbw2 B0
    replace Bv := below_on hbw2 Bv
    have Bw2 : Below w2.heap.size w2 w2 := Below.refl _ _
    go_wp2_with fail
    with_reducible refine (sFit_any _ _ _ xs0 a1 _ ((nl_own ow2 lw2 r0.len uw2).on Bw2) htotL_xs0).mono ?_
    rintro e w3 ⟨Aw3, nw3, cw3, sw3, rfl, Tw3, hbw3⟩
    have zw3 := hbw3.size
    replace B0 := below_on hbw3 B0
    replace Bv := below_on hbw3 Bv
    replace Bw2 := below_on hbw3 Bw2
    have Bw3 : Below w3.heap.size w3 w3 := Below.refl _ _
    clear Bw2
    have kk0 := (P0.on Bv)
    have kc0_0 := kk0.cell 0
    simp only [List.getElem?_toArray, List.getElem?_cons_zero] at kc0_0
    have kz0 := kk0.lt
    go_wp2_with fail
    clear kk0 kz0 kc0_0
    generalize hW : w3.alloc (.cells #[.slice Aw3 nw3 cw3] 28) = w4
    have hbw4 : Below w3.heap.size w3 w4 := by rw [← hW]; exact (Below.refl _ _).alloc (Nat.le_refl _) _
    have Jw4 : Blk w4 w3.heap.size 28 #[.slice Aw3 nw3 cw3] := by rw [← hW]; exact Blk.new _ _ _
    clear hW
    have zw4 := hbw4.size
    replace B0 := below_on hbw4 B0
    replace Bv := below_on hbw4 Bv
    replace Bw3 := below_on hbw4 Bw3
    have Bw4 : Below w4.heap.size w4 w4 := Below.refl _ _
    with_reducible refine (toInk_own A0 n0 cp0 xs0 _ (r0.on B0) htotL_xs0).mono ?_
    rintro e w5 ⟨qw5, sw5, rfl, ow5, lw5, uw5, dw5, hbw5⟩
    have zw5 := hbw5.size
    replace B0 := below_on hbw5 B0
    replace Bv := below_on hbw5 Bv
    replace Bw3 := below_on hbw5 Bw3
    replace Bw4 := below_on hbw5 Bw4
    have Bw5 : Below w5.heap.size w5 w5 := Below.refl _ _
    go_wp2_with fail
    generalize hW : w5.alloc (.cells #[.slice (some ⟨qw5, 0, none⟩) n0 n0] 28) = w6
    have hbw6 : Below w5.heap.size w5 w6 := by rw [← hW]; exact (Below.refl _ _).alloc (Nat.le_refl _) _
    have Jw6 : Blk w6 w5.heap.size 28 #[.slice (some ⟨qw5, 0, none⟩) n0 n0] := by rw [← hW]; exact Blk.new _ _ _
    clear hW
    have zw6 := hbw6.size
    replace B0 := below_on hbw6 B0
    replace Bv := below_on hbw6 Bv
    replace Bw3 := below_on hbw6 Bw3
    replace Bw4 := below_on hbw6 Bw4
    replace Bw5 := below_on hbw6 Bw5
    have Bw6 : Below w6.heap.size w6 w6 := Below.refl _ _
    have kk0 := (Jw6.on Bw6)
    have kc0_0 := kk0.cell 0
    simp only [List.getElem?_toArray, List.getElem?_cons_zero] at kc0_0
    have kz0 := kk0.lt
    go_wp2_with fail
    clear kk0 kz0 kc0_0
    with_reducible refine (iFit_any _ _ _ xs0 a1 _ ((nl_own ow5 lw5 r0.len uw5).on Bw5) htotL_xs0).mono ?_
    rintro e w7 ⟨Aw7, nw7, cw7, sw7, rfl, Tw7, hbw7⟩
    have zw7 := hbw7.size
    replace B0 := below_on hbw7 B0
    replace Bv := below_on hbw7 Bv
    replace Bw3 := below_on hbw7 Bw3
    replace Bw4 := below_on hbw7 Bw4
    replace Bw5 := below_on hbw7 Bw5
    replace Bw6 := below_on hbw7 Bw6
    have Bw7 : Below w7.heap.size w7 w7 := Below.refl _ _
    have kk0 := (Jw4.on Bw4)
    have kc0_0 := kk0.cell 0
    simp only [List.getElem?_toArray, List.getElem?_cons_zero] at kc0_0
    have kz0 := kk0.lt
    go_wp2_with fail
    clear kk0 kz0 kc0_0
    generalize hW : w7.alloc (.cells #[.slice Aw7 nw7 cw7] 28) = w8
    have hbw8 : Below w7.heap.size w7 w8 := by rw [← hW]; exact (Below.refl _ _).alloc (Nat.le_refl _) _
    have Jw8 : Blk w8 w7.heap.size 28 #[.slice Aw7 nw7 cw7] := by rw [← hW]; exact Blk.new _ _ _
    clear hW
    have zw8 := hbw8.size
    replace B0 := below_on hbw8 B0
    replace Bv := below_on hbw8 Bv
    replace Bw3 := below_on hbw8 Bw3
    replace Bw4 := below_on hbw8 Bw4
    replace Bw5 := below_on hbw8 Bw5
    replace Bw6 := below_on hbw8 Bw6
    replace Bw7 := below_on hbw8 Bw7
    have Bw8 : Below w8.heap.size w8 w8 := Below.refl _ _
    with_reducible refine (eqInk_yes _ _ _ _ _ _ _ _ ((nl_own Tw7.o Tw7.l Tw7.x Tw7.u).on Bw7) ((nl_own Tw3.o Tw3.l Tw3.x Tw3.u).on Bw3) (Nat.le_trans (ftL_tot a1 xs0) htotL_xs0)).mono ?_
    rintro e w9 ⟨rfl, hbw9⟩
    have zw9 := hbw9.size
    replace B0 := below_on hbw9 B0
    replace Bv := below_on hbw9 Bv
    replace Bw3 := below_on hbw9 Bw3
    replace Bw4 := below_on hbw9 Bw4
    replace Bw5 := below_on hbw9 Bw5
    replace Bw6 := below_on hbw9 Bw6
    replace Bw7 := below_on hbw9 Bw7
    replace Bw8 := below_on hbw9 Bw8
    have kk0 := (P0.on Bv)
    have kc0_0 := kk0.cell 0
    simp only [List.getElem?_toArray, List.getElem?_cons_zero] at kc0_0
    have kz0 := kk0.lt
    have kk1 := (Jw6.on Bw6)
    have kc1_0 := kk1.cell 0
    simp only [List.getElem?_toArray, List.getElem?_cons_zero] at kc1_0
    have kz1 := kk1.lt
    go_wp2_with fail
    replace B0 := Below.drew B0
    replace Bv := Below.drew Bv
    replace Bw3 := Below.drew Bw3
    replace Bw4 := Below.drew Bw4
    replace Bw5 := Below.drew Bw5
    replace Bw6 := Below.drew Bw6
    replace Bw7 := Below.drew Bw7
    replace Bw8 := Below.drew Bw8
    go_region_held3 (fun w' => (∀ b o, b < w9.heap.size → w'.cell? ⟨b, o, none⟩ = w9.cell? ⟨b, o, none⟩) ∧ Below w9.heap.size w9 w') (first | exact sk (Below.refl _ _).drew | (go_split_ands; first | exact sk (below_app ‹_› hbw10 (Below.size ‹_›)) | exact sk (below_app ‹_› hbw11 (Below.size ‹_›)))) (first | (go_at_call 10; with_reducible refine (toInk_own A0 n0 cp0 xs0 _ (r0.on B0) htotL_xs0).mono ?_; rintro e w10 ⟨qw10, sw10, rfl, ow10, lw10, uw10, dw10, hbw10⟩; have zw10 := hbw10.size; rw [hs_drew] at zw10; replace B0 := below_on hbw10 B0; replace Bv := below_on hbw10 Bv; replace Bw3 := below_on hbw10 Bw3; replace Bw4 := below_on hbw10 Bw4; replace Bw5 := below_on hbw10 Bw5; replace Bw6 := below_on hbw10 Bw6; replace Bw7 := below_on hbw10 Bw7; replace Bw8 := below_on hbw10 Bw8; have Bw10 : Below w10.heap.size w10 w10 := Below.refl _ _) | (go_at_call 12; with_reducible refine (eqInk_yes _ _ _ _ _ _ xs0 _ ((nl_own ow5 lw5 r0.len uw5).on Bw5) ((nl_own ow10 lw10 r0.len uw10).on Bw10) htotL_xs0).mono ?_; rintro e w11 ⟨rfl, hbw11⟩; have zw11 := hbw11.size; replace B0 := below_on hbw11 B0; replace Bv := below_on hbw11 Bv; replace Bw3 := below_on hbw11 Bw3; replace Bw4 := below_on hbw11 Bw4; replace Bw5 := below_on hbw11 Bw5; replace Bw6 := below_on hbw11 Bw6; replace Bw7 := below_on hbw11 Bw7; replace Bw8 := below_on hbw11 Bw8; replace Bw10 := below_on hbw11 Bw10))
    clear kk0 kz0 kc0_0 kk1 kz1 kc1_0
    go_split_ands
    have hinw12 := uw5.top' (by rw [lw5, r0.len]; exact Nat.le_refl _)
    have hAw12 : ∀ a : Addr, (some ⟨qw5, 0, none⟩ : Option Addr) = some a → w4.heap.size ≤ a.block ∧ a.block < w5.heap.size := fun a ha => (ow5).lt a.block (by rw [ha]; rfl)
    have hBw12 : w4.heap.size ≤ w11.heap.size := by omega
    have htw12 : w5.heap.size ≤ w11.heap.size := by omega
    have kk0 := (Jw6.on Bw6)
    have kc0_0 := kk0.cell 0
    simp only [List.getElem?_toArray, List.getElem?_cons_zero] at kc0_0
    have kz0 := kk0.lt
    go_wp2_with fail
    clear kk0 kz0 kc0_0
    with_reducible refine (markInk_own  _ _ _ _ _ w5.heap.size xs0 _ _ _ (own_below ow5 Bw5) lw5 r0.len (uw5.on Bw5) dw5 hinw12 hAw12 hBw12 htw12 htotL_xs0 (by omega) (by omega)).mono ?_
    rintro e w12 ⟨hsw12, rfl, hcw12, ow12, lw12, uw12, mw12⟩
    have zw12 := hcw12.1.size
    clear hinw12 hAw12 hBw12 htw12
    obtain ⟨kaw12, kbw12⟩ := kI_bd (k := 1) (r := n0) htotL_xs0 (by rw [r0.len]; exact Nat.le_refl _) (by omega) (by omega)
    replace B0 := B0.trans (hcw12.1.mono (by omega))
    replace Bv := Bv.trans (hcw12.1.mono (by omega))
    replace Bw3 := Bw3.trans (hcw12.1.mono (by omega))
    replace Bw4 := Bw4.trans (hcw12.1.mono (by omega))
    have ow12G := own_chg (own_below Tw7.o Bw7) hcw12 (fun q hq => by have := (Tw7.o).lt q hq; have := (Tw7.o).lt q hq; omega)
    have uw12G := NLo.chg (Tw7.u.on Bw7) hcw12 (by omega)
    have Kw12G := Blk.chgI (Jw8.on Bw8) hcw12 (by omega)
    clear Bw5
    clear Bw6
    clear Bw7
    clear Bw8
    clear Bw10
    have Bw12 : Below w12.heap.size w12 w12 := Below.refl _ _
    have kk0 := (Kw12G.on Bw12)
    have kc0_0 := kk0.cell 0
    simp only [List.getElem?_toArray, List.getElem?_cons_zero] at kc0_0
    have kz0 := kk0.lt
    have kk1 := (Jw4.on Bw4)
    have kc1_0 := kk1.cell 0
    simp only [List.getElem?_toArray, List.getElem?_cons_zero] at kc1_0
    have kz1 := kk1.lt
    go_wp2_with fail
    clear kk0 kz0 kc0_0 kk1 kz1 kc1_0
    with_reducible refine (eqInk_yes _ _ _ _ _ _ _ _ ((nl_own ow12G Tw7.l Tw7.x uw12G).on Bw12) ((nl_own Tw3.o Tw3.l Tw3.x Tw3.u).on Bw3) (Nat.le_trans (ftL_tot a1 xs0) htotL_xs0)).mono ?_
    rintro e w13 ⟨rfl, hbw13⟩
    have zw13 := hbw13.size
    replace B0 := below_on hbw13 B0
    replace Bv := below_on hbw13 Bv
    replace Bw3 := below_on hbw13 Bw3
    replace Bw4 := below_on hbw13 Bw4
    replace Bw12 := below_on hbw13 Bw12
    have hls : nw7 + (lens3 (ftL a1 xs0)).sum ≤ 1048576 := by have h9 := lens3_sum (Nat.le_trans (ftL_tot a1 xs0) htotL_xs0); rw [Tw7.x] at h9; exact h9
    have hAw14 : ∀ a : Addr, Aw7 = some a → w6.heap.size ≤ a.block ∧ a.block < w7.heap.size := fun a ha => Tw7.o.lt a.block (by rw [ha]; rfl)
    have hBw14 : w6.heap.size ≤ w13.heap.size := by omega
    have htw14 : w7.heap.size ≤ w13.heap.size := by omega
    have kk0 := (Kw12G.on Bw12)
    have kc0_0 := kk0.cell 0
    simp only [List.getElem?_toArray, List.getElem?_cons_zero] at kc0_0
    have kz0 := kk0.lt
    go_wp2_with fail
    clear kk0 kz0 kc0_0
    with_reducible refine (markInk_own  _ _ _ _ _ w7.heap.size _ _ _ _ (own_below ow12G Bw12) Tw7.l Tw7.x (uw12G.on Bw12) Tw7.d Tw7.top hAw14 hBw14 htw14 (Nat.le_trans (ftL_tot a1 xs0) htotL_xs0) (by omega) (by omega)).mono ?_
    rintro e w14 ⟨hsw14, rfl, hcw14, ow14, lw14, uw14, mw14⟩
    have zw14 := hcw14.1.size
    clear  hAw14 hBw14 htw14
    replace B0 := B0.trans (hcw14.1.mono (by omega))
    replace Bv := Bv.trans (hcw14.1.mono (by omega))
    replace Bw3 := Bw3.trans (hcw14.1.mono (by omega))
    replace Bw4 := Bw4.trans (hcw14.1.mono (by omega))
    have Kw14G := Blk.chgI (Kw12G.on Bw12) hcw14 (by omega)
    clear Bw12
    have Bw14 : Below w14.heap.size w14 w14 := Below.refl _ _
    have kk0 := (Kw14G.on Bw14)
    have kc0_0 := kk0.cell 0
    simp only [List.getElem?_toArray, List.getElem?_cons_zero] at kc0_0
    have kz0 := kk0.lt
    go_wp2_with fail
    clear kk0 kz0 kc0_0
    with_reducible refine (heldInk_any _ _ _ _ _ _ ((nl_own ow14 lw14 (by rw [mkI_len, lens3_len]; exact Tw7.x) uw14).on Bw14) hls (by omega) (by omega)).mono ?_
    rintro e w15 ⟨rfl, hbw15⟩
    have zw15 := hbw15.size
    replace B0 := below_on hbw15 B0
    replace Bv := below_on hbw15 Bv
    replace Bw3 := below_on hbw15 Bw3
    replace Bw4 := below_on hbw15 Bw4
    replace Bw14 := below_on hbw15 Bw14
    have kk0 := (P0.on Bv)
    have kc0_0 := kk0.cell 0
    simp only [List.getElem?_toArray, List.getElem?_cons_zero] at kc0_0
    have kz0 := kk0.lt
    go_wp2_with fail
    clear kk0 kz0 kc0_0
    with_reducible refine (toInk_own A0 n0 cp0 xs0 _ (r0.on B0) htotL_xs0).mono ?_
    rintro e w16 ⟨qw16, sw16, rfl, ow16, lw16, uw16, dw16, hbw16⟩
    have zw16 := hbw16.size
    replace B0 := below_on hbw16 B0
    replace Bv := below_on hbw16 Bv
    replace Bw3 := below_on hbw16 Bw3
    replace Bw4 := below_on hbw16 Bw4
    replace Bw14 := below_on hbw16 Bw14
    have Bw16 : Below w16.heap.size w16 w16 := Below.refl _ _
    go_wp2_with fail
    with_reducible refine (iFit_any _ _ _ xs0 a1 _ ((nl_own ow16 lw16 r0.len uw16).on Bw16) htotL_xs0).mono ?_
    rintro e w17 ⟨Aw17, nw17, cw17, sw17, rfl, Tw17, hbw17⟩
    have zw17 := hbw17.size
    replace B0 := below_on hbw17 B0
    replace Bv := below_on hbw17 Bv
    replace Bw3 := below_on hbw17 Bw3
    replace Bw4 := below_on hbw17 Bw4
    replace Bw14 := below_on hbw17 Bw14
    replace Bw16 := below_on hbw17 Bw16
    have Bw17 : Below w17.heap.size w17 w17 := Below.refl _ _
    have kk0 := (Jw4.on Bw4)
    have kc0_0 := kk0.cell 0
    simp only [List.getElem?_toArray, List.getElem?_cons_zero] at kc0_0
    have kz0 := kk0.lt
    go_wp2_with fail
    clear kk0 kz0 kc0_0
    generalize hW : w17.alloc (.cells #[.slice Aw17 nw17 cw17] 28) = w18
    have hbw18 : Below w17.heap.size w17 w18 := by rw [← hW]; exact (Below.refl _ _).alloc (Nat.le_refl _) _
    have Jw18 : Blk w18 w17.heap.size 28 #[.slice Aw17 nw17 cw17] := by rw [← hW]; exact Blk.new _ _ _
    clear hW
    have zw18 := hbw18.size
    replace B0 := below_on hbw18 B0
    replace Bv := below_on hbw18 Bv
    replace Bw3 := below_on hbw18 Bw3
    replace Bw4 := below_on hbw18 Bw4
    replace Bw14 := below_on hbw18 Bw14
    replace Bw16 := below_on hbw18 Bw16
    replace Bw17 := below_on hbw18 Bw17
    have Bw18 : Below w18.heap.size w18 w18 := Below.refl _ _
    with_reducible refine (eqInk_yes _ _ _ _ _ _ _ _ ((nl_own Tw17.o Tw17.l Tw17.x Tw17.u).on Bw17) ((nl_own Tw3.o Tw3.l Tw3.x Tw3.u).on Bw3) (Nat.le_trans (ftL_tot a1 xs0) htotL_xs0)).mono ?_
    rintro e w19 ⟨rfl, hbw19⟩
    have zw19 := hbw19.size
    replace B0 := below_on hbw19 B0
    replace Bv := below_on hbw19 Bv
    replace Bw3 := below_on hbw19 Bw3
    replace Bw4 := below_on hbw19 Bw4
    replace Bw14 := below_on hbw19 Bw14
    replace Bw16 := below_on hbw19 Bw16
    replace Bw17 := below_on hbw19 Bw17
    replace Bw18 := below_on hbw19 Bw18
    have kk0 := (Kw14G.on Bw14)
    have kc0_0 := kk0.cell 0
    simp only [List.getElem?_toArray, List.getElem?_cons_zero] at kc0_0
    have kz0 := kk0.lt
    go_wp2_with fail
    clear kk0 kz0 kc0_0
    with_reducible refine (heldInk_any _ _ _ _ _ _ ((nl_own ow14 lw14 (by rw [mkI_len, lens3_len]; exact Tw7.x) uw14).on Bw14) hls (by omega) (by omega)).mono ?_
    rintro e w20 ⟨rfl, hbw20⟩
    have zw20 := hbw20.size
    replace B0 := below_on hbw20 B0
    replace Bv := below_on hbw20 Bv
    replace Bw3 := below_on hbw20 Bw3
    replace Bw4 := below_on hbw20 Bw4
    replace Bw14 := below_on hbw20 Bw14
    replace Bw16 := below_on hbw20 Bw16
    replace Bw17 := below_on hbw20 Bw17
    replace Bw18 := below_on hbw20 Bw18
    go_wp2
    go_ret
    exact ⟨rfl, B0⟩
  · go_enter Try.func4, Try.ntmps4
    go_wp2_with fail
    have B0 : Below w.heap.size w (w.alloc (.cells #[.slice A0 n0 cp0] 24)) := (by repeat (first | exact Below.refl _ _ | assumption | refine Below.drew ?_ | refine below_drewN ?_ _ | refine Below.alloc ?_ (by first | omega | (simp <;> omega)) _ | refine Below.setCell ?_ (by first | omega | (simp <;> omega)) _))
    have P0 : Blk (w.alloc (.cells #[.slice A0 n0 cp0] 24)) (w.heap.size) 24 #[.slice A0 n0 cp0] := by have hk := Blk.new w 24 #[.slice A0 n0 cp0]; simpa using hk
    generalize (w.alloc (.cells #[.slice A0 n0 cp0] 24)) = v at *
    have Bv : Below v.heap.size v v := Below.refl _ _
    have zv := B0.size
    with_reducible refine (szInk_no _ _ _ xs0 _ _ (r0.on B0) (by omega) (by omega) (by omega)).mono ?_
    rintro e w1 ⟨rfl, hbw1⟩
    have zw1 := hbw1.size
    replace B0 := below_on hbw1 B0
    replace Bv := below_on hbw1 Bv
    go_wp2
    go_ret
    exact ⟨rfl, B0⟩

/-! ### From the walk to the statement -/
set_option maxRecDepth 100000 in
theorem lifted (os : Os) (started : os.Started) (H : Type) (enc : TypeId × Value → H) :
    ReturnsInHanded {} Try.checked os 4 .any (Rows.fnExactFitInkSpec.pre6 enc Try.prog Try.f4 Rows.fnExactFitInkRow.domain false) (Rows.fnExactFitInkSpec.post enc Try.prog Try.f4 false true false false) := by
  refine returnsInHanded_of_change (C := Try.checked) Try.own started (by kernel_rfl) Try.func4
    (ChangeSpec.witness6 (enc := enc) (C := Try.checked) false ⟨#[], #[.agg #[.slice none 0 0], .int .i64 0], []⟩ 8 (by kernel_rfl) (by kernel_rfl) (by kernel_rfl) (by kernel_rfl)) ?_
  intro W base args ds gs before hval0 hW hcnd _
  have hval : ∀ (j : Nat) t v, Try.f4.params[j]? = some t → args[j]? = some v → Value.okWide Try.prog W .any base t v := hval0
  have hW' := hW
  obtain ⟨p, q, hA0, hV, rfl, hfz, hnd⟩ := hW
  have hA : DataW.TrodAll enc Try.prog W 0 (fun _ => true) true Try.f4.params.toList args.toList ds p := hA0
  rw [Try.params4] at hA hval
  obtain ⟨v0, vs0, d0, ds0, p0, q0, hargs, rfl, rfl, h0, tr0⟩ := trodAll_cons hA
  obtain ⟨v1, vs1, d1, ds1, p1, q1, rfl, rfl, rfl, h1, tr1⟩ := trodAll_cons tr0
  obtain ⟨rfl, rfl, rfl⟩ := trodAll_nil tr1
  obtain rfl : args = #[v0, v1] := by cases args; simp_all
  obtain ⟨rfl, rfl⟩ := trodVars_none hV
  have k0 := h0
  have lt0 : ∀ x ∈ p0, x.block < W.heap.size := by obtain ⟨m, hm⟩ := k0; exact DataW.trod_lt m _ _ _ hm
  obtain ⟨A0, n0, cp0, xs0, rfl, r0, g0⟩ := opInk (hval 0 24 v0 rfl rfl) h0
  have k1 := h1
  have lt1 : ∀ x ∈ p1, x.block < W.heap.size := by obtain ⟨m, hm⟩ := k1; exact DataW.trod_lt m _ _ _ hm
  obtain ⟨a1, rfl, g1⟩ := opI64 (hval 1 2 v1 rfl rfl) h1
  clear hA0 hval0
  refine (walk A0 n0 cp0 xs0 a1 W r0 g0 g1).mono fun e W' ⟨he, bel⟩ => ?_
  subst he
  exact ⟨_, rfl, _, _, _, [], _, [], hW', trodAll_mk1 (shut_bool Try.underlying4 _), (trodAll_cons_mk (Below.trod Try.laidOut (by kernel_rfl) (of_decide_eq_true (by kernel_rfl)) k0 bel lt0) (trodAll_cons_mk (Below.trod Try.laidOut (by kernel_rfl) (of_decide_eq_true (by kernel_rfl)) k1 bel lt1) trodAll_mk0)), rfl, bel.frame _, fun h => by cases h⟩

theorem over : Rows.fnExactFitInkRow.holds Try.pinned (OpenSpec.ofChange Rows.fnExactFitInkSpec) :=
  OpenClaim.holds_of_wide 4 Try.f4 rfl rfl rfl rfl rfl rfl rfl ⟨rfl, rfl, rfl, rfl, rfl⟩ rfl rfl rfl rfl rfl (by kernel_rfl) Try.func4 (by kernel_rfl)
    (of_decide_eq_true (by kernel_rfl)) (by unfold Func.isWrapper; first | (rw [if_pos (by decide +kernel)]; kernel_rfl) | (rw [if_neg (by decide +kernel)]; exact ⟨rfl, rfl⟩))
    (fun os started H enc _ => lifted os started H enc)

theorem proved : Rows.FnExactFitInkSaid := over
end fnExactFitInk
end Go.Proofs.Ytbfilhpgekgmbaa
