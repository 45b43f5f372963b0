/- The law of AddTemplate returns true for every input: the program's AddTemplate and the reference's return the same. No condition: every argument that can be read. -/
import Derived.Test.YtammapaockmjkaaTm
import Derived.Test.YtammapaockmjkaaAt
import Derived.Test.YtammapaockmjkaaAu
import Derived.Test.YtammapaockmjkaaGn
import Derived.Test.YtammapaockmjkaaAr
import Derived.ProofKit
import Derived.Deep.RegionHeld3
import Derived.Deep.Cut
import Derived.Deep.RegionLaw
import Derived.ChangeOld
namespace Go.Proofs.Ytammapaockmjkaa
open Go.ChangeShapes Go.WideShapes Go.ChangeAt Go.RowKit
namespace fnExactAddTemplate
set_option linter.unusedVariables false
set_option maxRecDepth 100000 in
set_option maxHeartbeats 4000000 in
theorem walk (z0 : Int) (A0 : Option Addr) (n0 cp0 : Nat) (xs0 : List TV) (s1 : ByteArray) (A1 : Option Addr) (n1 cp1 : Nat) (xs1 : List T3) (w : World) (r0 : TL w w.heap.size A0 n0 cp0 xs0) (g0 : ∀ x ∈ xs0, (∀ q ∈ x.2, ok3 q) ∧ x.1.size ≤ maxLen) (gz0 : I64 z0) (r1 : RdL c3 3 w w.heap.size A1 n1 cp1 xs1) (g1 : ∀ x ∈ xs1, ok3 x) (gs1 : s1.size ≤ maxLen) :
    Calls Try.prog 7 #[.agg #[.int .i64 z0, .slice A0 n0 cp0], .agg #[.string s1, .slice A1 n1 cp1]] w fun e w' => e = .returned (.bool true) ∧ Below w.heap.size w w' := by
  have m0 : n0 ≤ 9223372036854775807 := Nat.le_trans r0.cap r0.capm
  have m1 : n1 ≤ 9223372036854775807 := Nat.le_trans r1.cap r1.capm
  have hss1 : s1.size ≤ 9223372036854775807 := by have := gs1; simpa [maxLen] using this
  by_cases hbig : totT xs0 + s1.size + n1 ≤ 1048576
  · have htotT_xs0 : totT xs0 ≤ 1048576 := by omega
    have hs1_size : s1.size ≤ 1048576 := by omega
    have hn1 : n1 ≤ 1048576 := by omega
    go_enter Try.func7, Try.ntmps7
    go_wp2_with fail
    have B0 : Below w.heap.size w ((w.alloc (.cells #[.int .i64 z0, .slice A0 n0 cp0] 24)).alloc (.cells #[.string s1, .slice A1 n1 cp1] 52)) := (by repeat (first | exact Below.refl _ _ | assumption | refine Below.drew ?_ | refine below_drewN ?_ _ | refine Below.alloc ?_ (by first | omega | (simp <;> omega)) _ | refine Below.setCell ?_ (by first | omega | (simp <;> omega)) _))
    have P0 : Blk ((w.alloc (.cells #[.int .i64 z0, .slice A0 n0 cp0] 24)).alloc (.cells #[.string s1, .slice A1 n1 cp1] 52)) (w.heap.size) 24 #[.int .i64 z0, .slice A0 n0 cp0] := by have hk := (Blk.new w 24 #[.int .i64 z0, .slice A0 n0 cp0]).alloc (.cells #[.string s1, .slice A1 n1 cp1] 52); simpa using hk
    have P1 : Blk ((w.alloc (.cells #[.int .i64 z0, .slice A0 n0 cp0] 24)).alloc (.cells #[.string s1, .slice A1 n1 cp1] 52)) (w.heap.size + 1) 52 #[.string s1, .slice A1 n1 cp1] := by have hk := Blk.new (w.alloc (.cells #[.int .i64 z0, .slice A0 n0 cp0] 24)) 52 #[.string s1, .slice A1 n1 cp1]; simpa using hk
    generalize ((w.alloc (.cells #[.int .i64 z0, .slice A0 n0 cp0] 24)).alloc (.cells #[.string s1, .slice A1 n1 cp1] 52)) = v at *
    have Bv : Below v.heap.size v v := Below.refl _ _
    have zv := B0.size
    with_reducible refine (szStore_yes z0 _ _ _ xs0 _ _ (r0.on B0) (fun x hx => (g0 x hx).2) (by omega) (by omega) (by omega)).mono ?_
    rintro e w1 ⟨rfl, hbw1⟩
    have zw1 := hbw1.size
    replace B0 := below_on hbw1 B0
    replace Bv := below_on hbw1 Bv
    have kk0 := (P1.on Bv)
    have kc0_0 := kk0.cell 0
    have kc0_1 := kk0.cell 1
    simp only [List.getElem?_toArray, List.getElem?_cons_succ, List.getElem?_cons_zero] at kc0_0 kc0_1
    have kz0 := kk0.lt
    go_wp2_with fail
    clear kk0 kz0 kc0_0 kc0_1
    with_reducible refine (szTemplate_yes s1 _ _ _ _ _ hss1 (by omega) (by omega) (by omega) (by omega)).mono ?_
    rintro e w2 ⟨rfl, hbw2⟩
    have zw2 := hbw2.size
    replace B0 := below_on hbw2 B0
    replace Bv := below_on hbw2 Bv
    have hzl : (0 : Int) ≤ 1048576 - (totT xs0 : Int) - (s1.size : Int) - (n1 : Int) := by omega
    have kk0 := (P0.on Bv)
    have kc0_0 := kk0.cell 0
    have kc0_1 := kk0.cell 1
    simp only [List.getElem?_toArray, List.getElem?_cons_succ, List.getElem?_cons_zero] at kc0_0 kc0_1
    have kz0 := kk0.lt
    have kk1 := (P1.on Bv)
    have kc1_0 := kk1.cell 0
    have kc1_1 := kk1.cell 1
    simp only [List.getElem?_toArray, List.getElem?_cons_succ, List.getElem?_cons_zero] at kc1_0 kc1_1
    have kz1 := kk1.lt
    go_wp2_with fail
    go_cut [6, 7] from 27 (fun pp cc w' => ∃ (g9 : Nat) (A9 : Option Addr) (n9 c9 : Nat), pp = .pointer (some ⟨g9, 0, none⟩) ∧ cc = .int .i64 (addE z0 xs0 (s1, xs1)) ∧ Below w2.heap.size w2 w' ∧ Hid (TL w' w'.heap.size A9 n9 c9 (addL z0 xs0 (s1, xs1))) ∧ Blk w' g9 31 #[.int .i64 (addZ z0 xs0 (s1, xs1)), .slice A9 n9 c9])
    case first =>
      go_region_law (first | (go_simp; go_at_call 16; refine (toStore_any z0 A0 n0 cp0 xs0 _ (r0.on (by first | exact B0.drew | exact (B0.alloc B0.size _).drew)) htotT_xs0).mono ?_; rintro e w3 ⟨qw3, sw3, rfl, ow3, lw3, uw3, dw3, hbw3⟩; have hsw3 : Below w2.heap.size w2 w3 := (by first | exact below_app (Below.refl _ _).drew hbw3 (Nat.le_refl _) | exact below_app ((Below.refl _ _).alloc (Nat.le_refl _) _).drew hbw3 (by simp)); have zsw3 := hsw3.size; (first | (have Jw3 := (Blk.new w2 31 #[.int .i64 0, .slice none 0 0]).drew.on hbw3; obtain ⟨j0w3, j1w3, f0w3, f1w3, zjw3⟩ := Jw3.two) | skip); have B0w3 := below_on hsw3 B0; have Bvw3 := below_on hsw3 Bv; have Bw3 : Below w3.heap.size w3 w3 := Below.refl _ _; obtain ⟨l0p0w3, l1p0w3, _, _, lzp0w3⟩ := ((P0).on Bvw3).two; obtain ⟨l0p1w3, l1p1w3, _, _, lzp1w3⟩ := ((P1).on Bvw3).two) | (go_simp; go_at_call 34; refine (toTemplate_any s1 A1 n1 cp1 xs1 _ (r1.on (by first | exact B0w3 | exact B0w3.alloc B0w3.size _)) hn1).mono ?_; rintro e w4 ⟨qw4, rfl, ow4, hbw4⟩; have hsw4 : Below w3.heap.size w3 w4 := (by first | exact below_app (Below.refl _ _) hbw4 (Nat.le_refl _) | exact below_app ((Below.refl _ _).alloc (Nat.le_refl _) _) hbw4 (by simp)); have zsw4 := hsw4.size; (first | (have Jw4 := Jw3.on hbw4; obtain ⟨j0w4, j1w4, f0w4, f1w4, zjw4⟩ := Jw4.two) | (have Jw4 := (Blk.new w3 31 #[.int .i64 0, .slice none 0 0]).on hbw4; obtain ⟨j0w4, j1w4, f0w4, f1w4, zjw4⟩ := Jw4.two) | skip); have B0w3w4 := below_on hsw4 B0w3; have Bvw3w4 := below_on hsw4 Bvw3; have Bw3w4 := below_on hsw4 Bw3; have Bw4 : Below w4.heap.size w4 w4 := Below.refl _ _; obtain ⟨l0p0w4, l1p0w4, _, _, lzp0w4⟩ := ((P0).on Bvw3w4).two; obtain ⟨l0p1w4, l1p1w4, _, _, lzp1w4⟩ := ((P1).on Bvw3w4).two) | (go_simp; go_at_call 33; refine (sAdd_any z0 _ _ _ xs0 s1 _ _ _ xs1 _ ((tl_own ow3 lw3 r0.len uw3).on (by first | exact Bw3w4 | exact Bw3w4.alloc Bw3w4.size _)) htotT_xs0 gs1 ((RdL.of_own r1.len ow4).on (by first | exact Bw4 | exact Bw4.alloc Bw4.size _)) hn1).mono ?_; rintro e w5 ⟨Aw5, nw5, cw5, sw5, rfl, Tw5, hbw5⟩; have hsw5 : Below w4.heap.size w4 w5 := (by first | exact below_app (Below.refl _ _) hbw5 (Nat.le_refl _) | exact below_app ((Below.refl _ _).alloc (Nat.le_refl _) _) hbw5 (by simp)); have zsw5 := hsw5.size; (first | (have Jw5 := Jw4.on hbw5; obtain ⟨j0w5, j1w5, f0w5, f1w5, zjw5⟩ := Jw5.two) | (have Jw5 := (Blk.new w4 31 #[.int .i64 0, .slice none 0 0]).on hbw5; obtain ⟨j0w5, j1w5, f0w5, f1w5, zjw5⟩ := Jw5.two) | skip); have B0w3w4w5 := below_on hsw5 B0w3w4; have Bvw3w4w5 := below_on hsw5 Bvw3w4; have Bw3w4w5 := below_on hsw5 Bw3w4; have Bw4w5 := below_on hsw5 Bw4; have Bw5 : Below w5.heap.size w5 w5 := Below.refl _ _; obtain ⟨l0p0w5, l1p0w5, _, _, lzp0w5⟩ := ((P0).on Bvw3w4w5).two; obtain ⟨l0p1w5, l1p1w5, _, _, lzp1w5⟩ := ((P1).on Bvw3w4w5).two))
      all_goals
        go_wp2
        go_meet
        have hTot : Below w2.heap.size w2 w5 := (below_on hsw5 (below_on hsw4 hsw3))
        first | exact ⟨w5.heap.size, Aw5, nw5, cw5, rfl, rfl, hTot.alloc hTot.size _, Tw5.tl.on ((Below.refl _ _).alloc (Nat.le_refl _) _), Blk.new _ _ _⟩ | exact ⟨_, Aw5, nw5, cw5, rfl, rfl, (hTot.setCell (by simp only; omega) _).setCell (by simp only; omega) _, ((Tw5.off Jw5 (by decide) (by decide) 0 _).off (Jw5.set_ 0 _) (by decide) (by decide) 1 _).tl, by simpa using (Jw5.set_ 0 _).set_ 1 _⟩
    case rest =>
      obtain ⟨gw6, Aw6, nw6, cw6, rfl, rfl, hbw6, Tw6, Jw6⟩ := hcut
      rename World => w6
      clear kk0 kz0 kc0_0 kc0_1 kk1 kz1 kc1_0 kc1_1
      have zw6 := hbw6.size
      replace B0 := below_on hbw6 B0
      replace Bv := below_on hbw6 Bv
      have Bw6 : Below w6.heap.size w6 w6 := Below.refl _ _
      have kk0 := (P0.on Bv)
      have kc0_0 := kk0.cell 0
      have kc0_1 := kk0.cell 1
      simp only [List.getElem?_toArray, List.getElem?_cons_succ, List.getElem?_cons_zero] at kc0_0 kc0_1
      have kz0 := kk0.lt
      go_wp2_with fail
      clear kk0 kz0 kc0_0 kc0_1
      with_reducible refine (toStore_any z0 A0 n0 cp0 xs0 _ (r0.on B0) htotT_xs0).mono ?_
      rintro e w7 ⟨qw7, sw7, rfl, ow7, lw7, uw7, dw7, hbw7⟩
      have zw7 := hbw7.size
      replace B0 := below_on hbw7 B0
      replace Bv := below_on hbw7 Bv
      replace Bw6 := below_on hbw7 Bw6
      have Bw7 : Below w7.heap.size w7 w7 := Below.refl _ _
      have kk0 := (P1.on Bv)
      have kc0_0 := kk0.cell 0
      have kc0_1 := kk0.cell 1
      simp only [List.getElem?_toArray, List.getElem?_cons_succ, List.getElem?_cons_zero] at kc0_0 kc0_1
      have kz0 := kk0.lt
      go_wp2_with fail
      clear kk0 kz0 kc0_0 kc0_1
      generalize hW : w7.alloc (.cells #[.int .i64 z0, .slice (some ⟨qw7, 0, none⟩) n0 n0] 31) = w8
      have hbw8 : Below w7.heap.size w7 w8 := by rw [← hW]; exact (Below.refl _ _).alloc (Nat.le_refl _) _
      have Jw8 : Blk w8 w7.heap.size 31 #[.int .i64 z0, .slice (some ⟨qw7, 0, none⟩) n0 n0] := by rw [← hW]; exact Blk.new _ _ _
      clear hW
      have zw8 := hbw8.size
      replace B0 := below_on hbw8 B0
      replace Bv := below_on hbw8 Bv
      replace Bw6 := below_on hbw8 Bw6
      replace Bw7 := below_on hbw8 Bw7
      have Bw8 : Below w8.heap.size w8 w8 := Below.refl _ _
      with_reducible refine (toTemplate_any s1 A1 n1 cp1 xs1 _ (r1.on B0) hn1).mono ?_
      rintro e w9 ⟨qw9, rfl, ow9, hbw9⟩
      have zw9 := hbw9.size
      replace B0 := below_on hbw9 B0
      replace Bv := below_on hbw9 Bv
      replace Bw6 := below_on hbw9 Bw6
      replace Bw7 := below_on hbw9 Bw7
      replace Bw8 := below_on hbw9 Bw8
      have Bw9 : Below w9.heap.size w9 w9 := Below.refl _ _
      have kk0 := (Jw8.on Bw8)
      have kc0_0 := kk0.cell 0
      have kc0_1 := kk0.cell 1
      simp only [List.getElem?_toArray, List.getElem?_cons_succ, List.getElem?_cons_zero] at kc0_0 kc0_1
      have kz0 := kk0.lt
      go_wp2_with fail
      clear kk0 kz0 kc0_0 kc0_1
      generalize hW : w9.alloc (.cells #[.string s1, .slice (some ⟨qw9, 0, none⟩) n1 n1] 58) = w10
      have hbw10 : Below w9.heap.size w9 w10 := by rw [← hW]; exact (Below.refl _ _).alloc (Nat.le_refl _) _
      have Jw10 : Blk w10 w9.heap.size 58 #[.string s1, .slice (some ⟨qw9, 0, none⟩) n1 n1] := by rw [← hW]; exact Blk.new _ _ _
      clear hW
      have zw10 := hbw10.size
      replace B0 := below_on hbw10 B0
      replace Bv := below_on hbw10 Bv
      replace Bw6 := below_on hbw10 Bw6
      replace Bw7 := below_on hbw10 Bw7
      replace Bw8 := below_on hbw10 Bw8
      replace Bw9 := below_on hbw10 Bw9
      have Bw10 : Below w10.heap.size w10 w10 := Below.refl _ _
      with_reducible refine (iAdd_any z0 _ _ _ xs0 s1 _ _ _ xs1 _ ((tl_own ow7 lw7 r0.len uw7).on Bw7) htotT_xs0 gs1 ((RdL.of_own r1.len ow9).on Bw9) hn1).mono ?_
      rintro e w11 ⟨Aw11, nw11, cw11, sw11, rfl, Tw11, hbw11⟩
      have zw11 := hbw11.size
      replace B0 := below_on hbw11 B0
      replace Bv := below_on hbw11 Bv
      replace Bw6 := below_on hbw11 Bw6
      replace Bw7 := below_on hbw11 Bw7
      replace Bw8 := below_on hbw11 Bw8
      replace Bw9 := below_on hbw11 Bw9
      replace Bw10 := below_on hbw11 Bw10
      have Bw11 : Below w11.heap.size w11 w11 := Below.refl _ _
      have kk0 := (Jw6.on Bw6)
      have kc0_0 := kk0.cell 0
      have kc0_1 := kk0.cell 1
      simp only [List.getElem?_toArray, List.getElem?_cons_succ, List.getElem?_cons_zero] at kc0_0 kc0_1
      have kz0 := kk0.lt
      go_wp2_with fail
      clear kk0 kz0 kc0_0 kc0_1
      generalize hW : w11.alloc (.cells #[.int .i64 (addZ z0 xs0 (s1, xs1)), .slice Aw11 nw11 cw11] 31) = w12
      have hbw12 : Below w11.heap.size w11 w12 := by rw [← hW]; exact (Below.refl _ _).alloc (Nat.le_refl _) _
      have Jw12 : Blk w12 w11.heap.size 31 #[.int .i64 (addZ z0 xs0 (s1, xs1)), .slice Aw11 nw11 cw11] := by rw [← hW]; exact Blk.new _ _ _
      clear hW
      have zw12 := hbw12.size
      replace B0 := below_on hbw12 B0
      replace Bv := below_on hbw12 Bv
      replace Bw6 := below_on hbw12 Bw6
      replace Bw7 := below_on hbw12 Bw7
      replace Bw8 := below_on hbw12 Bw8
      replace Bw9 := below_on hbw12 Bw9
      replace Bw10 := below_on hbw12 Bw10
      replace Bw11 := below_on hbw12 Bw11
      have Bw12 : Below w12.heap.size w12 w12 := Below.refl _ _
      with_reducible refine (eqStore_yes _ _ _ _ _ _ _ _ _ ((tl_own Tw11.o Tw11.l Tw11.x Tw11.u).on Bw11) (Tw6.out.on Bw6) (addL_tot z0 xs0 (s1, xs1))).mono ?_
      rintro e w13 ⟨rfl, hbw13⟩
      have zw13 := hbw13.size
      replace B0 := below_on hbw13 B0
      replace Bv := below_on hbw13 Bv
      replace Bw6 := below_on hbw13 Bw6
      replace Bw7 := below_on hbw13 Bw7
      replace Bw8 := below_on hbw13 Bw8
      replace Bw9 := below_on hbw13 Bw9
      replace Bw10 := below_on hbw13 Bw10
      replace Bw11 := below_on hbw13 Bw11
      replace Bw12 := below_on hbw13 Bw12
      have kk0 := (P0.on Bv)
      have kc0_0 := kk0.cell 0
      have kc0_1 := kk0.cell 1
      simp only [List.getElem?_toArray, List.getElem?_cons_succ, List.getElem?_cons_zero] at kc0_0 kc0_1
      have kz0 := kk0.lt
      have kk1 := (Jw8.on Bw8)
      have kc1_0 := kk1.cell 0
      have kc1_1 := kk1.cell 1
      simp only [List.getElem?_toArray, List.getElem?_cons_succ, List.getElem?_cons_zero] at kc1_0 kc1_1
      have kz1 := kk1.lt
      go_wp2_with fail
      replace B0 := Below.drew B0
      replace Bv := Below.drew Bv
      replace Bw6 := Below.drew Bw6
      replace Bw7 := Below.drew Bw7
      replace Bw8 := Below.drew Bw8
      replace Bw9 := Below.drew Bw9
      replace Bw10 := Below.drew Bw10
      replace Bw11 := Below.drew Bw11
      replace Bw12 := Below.drew Bw12
      go_region_held3 (fun w' => (∀ b o, b < w13.heap.size → w'.cell? ⟨b, o, none⟩ = w13.cell? ⟨b, o, none⟩) ∧ Below w13.heap.size w13 w') (first | exact sk (Below.refl _ _).drew | (go_split_ands; first | exact sk (below_app ‹_› hbw14 (Below.size ‹_›)) | exact sk (below_app ‹_› hbw15 (Below.size ‹_›)) | exact sk (Below.alloc hS hS.size _))) (first | (go_at_call 16; with_reducible refine (toStore_any z0 A0 n0 cp0 xs0 _ (r0.on B0) htotT_xs0).mono ?_; rintro e w14 ⟨qw14, sw14, rfl, ow14, lw14, uw14, dw14, hbw14⟩; have zw14 := hbw14.size; rw [hs_drew] at zw14; replace B0 := below_on hbw14 B0; replace Bv := below_on hbw14 Bv; replace Bw6 := below_on hbw14 Bw6; replace Bw7 := below_on hbw14 Bw7; replace Bw8 := below_on hbw14 Bw8; replace Bw9 := below_on hbw14 Bw9; replace Bw10 := below_on hbw14 Bw10; replace Bw11 := below_on hbw14 Bw11; replace Bw12 := below_on hbw14 Bw12; have Bw14 : Below w14.heap.size w14 w14 := Below.refl _ _) | (go_at_call 19; with_reducible refine (eqStore_yes z0 _ _ _ _ _ _ xs0 _ ((tl_own ow7 lw7 r0.len uw7).on Bw7) ((tl_own ow14 lw14 r0.len uw14).on Bw14) htotT_xs0).mono ?_; rintro e w15 ⟨rfl, hbw15⟩; have zw15 := hbw15.size; replace B0 := below_on hbw15 B0; replace Bv := below_on hbw15 Bv; replace Bw6 := below_on hbw15 Bw6; replace Bw7 := below_on hbw15 Bw7; replace Bw8 := below_on hbw15 Bw8; replace Bw9 := below_on hbw15 Bw9; replace Bw10 := below_on hbw15 Bw10; replace Bw11 := below_on hbw15 Bw11; replace Bw12 := below_on hbw15 Bw12; replace Bw14 := below_on hbw15 Bw14; have hS := (below_app (below_app ((Below.refl w13.heap.size w13).drew) hbw14 (Below.size ((Below.refl w13.heap.size w13).drew))) hbw15 (Below.size (below_app ((Below.refl w13.heap.size w13).drew) hbw14 (Below.size ((Below.refl w13.heap.size w13).drew)))))))
      clear kk0 kz0 kc0_0 kc0_1 kk1 kz1 kc1_0 kc1_1
      go_split_ands
      clear hS
      have kk0 := (P1.on Bv)
      have kc0_0 := kk0.cell 0
      have kc0_1 := kk0.cell 1
      simp only [List.getElem?_toArray, List.getElem?_cons_succ, List.getElem?_cons_zero] at kc0_0 kc0_1
      have kz0 := kk0.lt
      have kk1 := (Jw10.on Bw10)
      have kc1_0 := kk1.cell 0
      have kc1_1 := kk1.cell 1
      simp only [List.getElem?_toArray, List.getElem?_cons_succ, List.getElem?_cons_zero] at kc1_0 kc1_1
      have kz1 := kk1.lt
      go_wp2_with fail
      replace B0 := Below.drew B0
      replace Bv := Below.drew Bv
      replace Bw6 := Below.drew Bw6
      replace Bw7 := Below.drew Bw7
      replace Bw8 := Below.drew Bw8
      replace Bw9 := Below.drew Bw9
      replace Bw10 := Below.drew Bw10
      replace Bw11 := Below.drew Bw11
      replace Bw12 := Below.drew Bw12
      replace Bw14 := Below.drew Bw14
      go_region_held3 (fun w' => (∀ b o, b < w15.heap.size → w'.cell? ⟨b, o, none⟩ = w15.cell? ⟨b, o, none⟩) ∧ Below w15.heap.size w15 w') (first | exact sk (Below.refl _ _).drew | (go_split_ands; first | exact sk (below_app ‹_› hbw16 (Below.size ‹_›)) | exact sk (below_app ‹_› hbw17 (Below.size ‹_›)) | exact sk (Below.alloc hS hS.size _))) (first | (go_at_call 34; with_reducible refine (toTemplate_any s1 A1 n1 cp1 xs1 _ (r1.on B0) hn1).mono ?_; rintro e w16 ⟨qw16, rfl, ow16, hbw16⟩; simp only [hs_drew] at ow16; have zw16 := hbw16.size; rw [hs_drew] at zw16; replace B0 := below_on hbw16 B0; replace Bv := below_on hbw16 Bv; replace Bw6 := below_on hbw16 Bw6; replace Bw7 := below_on hbw16 Bw7; replace Bw8 := below_on hbw16 Bw8; replace Bw9 := below_on hbw16 Bw9; replace Bw10 := below_on hbw16 Bw10; replace Bw11 := below_on hbw16 Bw11; replace Bw12 := below_on hbw16 Bw12; replace Bw14 := below_on hbw16 Bw14; have Bw16 : Below w16.heap.size w16 w16 := Below.refl _ _) | (go_at_call 36; with_reducible refine (eqTemplate_yes s1 _ _ _ _ _ _ xs1 _ ((RdL.of_own r1.len ow9).on Bw9) ((RdL.of_own r1.len ow16).on Bw16) hn1).mono ?_; rintro e w17 ⟨rfl, hbw17⟩; have zw17 := hbw17.size; replace B0 := below_on hbw17 B0; replace Bv := below_on hbw17 Bv; replace Bw6 := below_on hbw17 Bw6; replace Bw7 := below_on hbw17 Bw7; replace Bw8 := below_on hbw17 Bw8; replace Bw9 := below_on hbw17 Bw9; replace Bw10 := below_on hbw17 Bw10; replace Bw11 := below_on hbw17 Bw11; replace Bw12 := below_on hbw17 Bw12; replace Bw14 := below_on hbw17 Bw14; replace Bw16 := below_on hbw17 Bw16; have hS := (below_app (below_app ((Below.refl w15.heap.size w15).drew) hbw16 (Below.size ((Below.refl w15.heap.size w15).drew))) hbw17 (Below.size (below_app ((Below.refl w15.heap.size w15).drew) hbw16 (Below.size ((Below.refl w15.heap.size w15).drew)))))))
      clear kk0 kz0 kc0_0 kc0_1 kk1 kz1 kc1_0 kc1_1
      go_split_ands
      clear hS
      have hinw18 := uw7.top (by rw [lw7, r0.len]; exact Nat.le_refl _)
      have hAw18 : ∀ a : Addr, (some ⟨qw7, 0, none⟩ : Option Addr) = some a → w6.heap.size ≤ a.block ∧ a.block < w7.heap.size := fun a ha => (ow7).lt a.block (by rw [ha]; rfl)
      have hBw18 : w6.heap.size ≤ w17.heap.size := by omega
      have htw18 : w7.heap.size ≤ w17.heap.size := by omega
      have kk0 := (Jw8.on Bw8)
      have kc0_0 := kk0.cell 0
      have kc0_1 := kk0.cell 1
      simp only [List.getElem?_toArray, List.getElem?_cons_succ, List.getElem?_cons_zero] at kc0_0 kc0_1
      have kz0 := kk0.lt
      go_wp2_with fail
      clear kk0 kz0 kc0_0 kc0_1
      with_reducible refine (markStore_own z0 _ _ _ _ _ w7.heap.size xs0 _ _ _ (own_below ow7 Bw7) lw7 r0.len (uw7.on Bw7) dw7 hinw18 hAw18 hBw18 htw18 htotT_xs0 (by omega) (by omega)).mono ?_
      rintro e w18 ⟨hsw18, rfl, hcw18, ow18, lw18, uw18, mw18⟩
      have zw18 := hcw18.1.size
      clear hinw18 hAw18 hBw18 htw18
      obtain ⟨kaw18, kbw18⟩ := kAt_bd (k := 1) (r := n0) htotT_xs0 (by rw [r0.len]; exact Nat.le_refl _) (by omega) (by omega)
      replace B0 := B0.trans (hcw18.1.mono (by omega))
      replace Bv := Bv.trans (hcw18.1.mono (by omega))
      replace Bw6 := Bw6.trans (hcw18.1.mono (by omega))
      have ow18G := own_chg (own_below Tw11.o Bw11) hcw18 (fun q hq => by have := (Tw11.o).lt q hq; have := (Tw11.o).lt q hq; omega)
      have uw18G := TLo.chg (Tw11.u.on Bw11) hcw18 (by omega)
      have Kw18G := Blk.chg (Jw12.on Bw12) hcw18 (by omega)
      have ow18x1 := own_chg (own_below ow9 Bw9) hcw18 (fun q hq => by have := (ow9).lt q hq; have := (ow9).lt q hq; omega)
      have Kw18x1 := Blk.chg (Jw10.on Bw10) hcw18 (by omega)
      clear Bw7
      clear Bw8
      clear Bw9
      clear Bw10
      clear Bw11
      clear Bw12
      clear Bw14
      clear Bw16
      have Bw18 : Below w18.heap.size w18 w18 := Below.refl _ _
      have kk0 := (Kw18x1.on Bw18)
      have kc0_0 := kk0.cell 0
      have kc0_1 := kk0.cell 1
      simp only [List.getElem?_toArray, List.getElem?_cons_succ, List.getElem?_cons_zero] at kc0_0 kc0_1
      have kz0 := kk0.lt
      go_wp2_with fail
      clear kk0 kz0 kc0_0 kc0_1
      with_reducible refine (markTemplate_any s1 _ _ _ _ _ _ _ (own_below ow18x1 Bw18) hn1 (by omega) (by omega)).mono ?_
      rintro e w19 ⟨rfl, ow19, hgw19⟩
      have zw19 := hgw19.size
      replace B0 := B0.grown hgw19 B0.size (fun q hq => by have := (ow18x1).lt q hq; have := (ow9).lt q hq; omega)
      replace Bv := Bv.grown hgw19 Bv.size (fun q hq => by have := (ow18x1).lt q hq; have := (ow9).lt q hq; omega)
      replace Bw6 := Bw6.grown hgw19 Bw6.size (fun q hq => by have := (ow18x1).lt q hq; have := (ow9).lt q hq; omega)
      have ow19G := (own_below ow18G Bw18).kept hgw19 (own_ne ow18G (fun q hq => by have := (ow18x1).lt q hq; have := (ow9).lt q hq; omega))
      have uw19G := TLo.kept (uw18G.on Bw18) hgw19 (fun q hq => by have := (ow18x1).lt q hq; have := (ow9).lt q hq; omega)
      have Kw19G := (Kw18G.on Bw18).kept hgw19 (fun q hq => by have := (ow18x1).lt q hq; have := (ow9).lt q hq; omega)
      clear Bw18
      have Bw19 : Below w19.heap.size w19 w19 := Below.refl _ _
      have kk0 := (Kw19G.on Bw19)
      have kc0_0 := kk0.cell 0
      have kc0_1 := kk0.cell 1
      simp only [List.getElem?_toArray, List.getElem?_cons_succ, List.getElem?_cons_zero] at kc0_0 kc0_1
      have kz0 := kk0.lt
      have kk1 := (Jw6.on Bw6)
      have kc1_0 := kk1.cell 0
      have kc1_1 := kk1.cell 1
      simp only [List.getElem?_toArray, List.getElem?_cons_succ, List.getElem?_cons_zero] at kc1_0 kc1_1
      have kz1 := kk1.lt
      go_wp2_with fail
      clear kk0 kz0 kc0_0 kc0_1 kk1 kz1 kc1_0 kc1_1
      with_reducible refine (eqStore_yes _ _ _ _ _ _ _ _ _ ((tl_own ow19G Tw11.l Tw11.x uw19G).on Bw19) (Tw6.out.on Bw6) (addL_tot z0 xs0 (s1, xs1))).mono ?_
      rintro e w20 ⟨rfl, hbw20⟩
      have zw20 := hbw20.size
      replace B0 := below_on hbw20 B0
      replace Bv := below_on hbw20 Bv
      replace Bw6 := below_on hbw20 Bw6
      replace Bw19 := below_on hbw20 Bw19
      have hls : nw11 + (lens (addL z0 xs0 (s1, xs1))).sum ≤ 1048576 := by have h9 := lens_sum (addL_tot z0 xs0 (s1, xs1)); rw [Tw11.x] at h9; exact h9
      have hAw21 : ∀ a : Addr, Aw11 = some a → w10.heap.size ≤ a.block ∧ a.block < w11.heap.size := fun a ha => Tw11.o.lt a.block (by rw [ha]; rfl)
      have hBw21 : w10.heap.size ≤ w20.heap.size := by omega
      have htw21 : w11.heap.size ≤ w20.heap.size := by omega
      have kk0 := (Kw19G.on Bw19)
      have kc0_0 := kk0.cell 0
      have kc0_1 := kk0.cell 1
      simp only [List.getElem?_toArray, List.getElem?_cons_succ, List.getElem?_cons_zero] at kc0_0 kc0_1
      have kz0 := kk0.lt
      go_wp2_with fail
      clear kk0 kz0 kc0_0 kc0_1
      with_reducible refine (markStore_own (addZ z0 xs0 (s1, xs1)) _ _ _ _ _ w11.heap.size _ _ _ _ (own_below ow19G Bw19) Tw11.l Tw11.x (uw19G.on Bw19) Tw11.d Tw11.top hAw21 hBw21 htw21 (addL_tot z0 xs0 (s1, xs1)) (by omega) (by omega)).mono ?_
      rintro e w21 ⟨hsw21, rfl, hcw21, ow21, lw21, uw21, mw21⟩
      have zw21 := hcw21.1.size
      clear  hAw21 hBw21 htw21
      replace B0 := B0.trans (hcw21.1.mono (by omega))
      replace Bv := Bv.trans (hcw21.1.mono (by omega))
      replace Bw6 := Bw6.trans (hcw21.1.mono (by omega))
      have Kw21G := Blk.chg (Kw19G.on Bw19) hcw21 (by omega)
      clear Bw19
      have Bw21 : Below w21.heap.size w21 w21 := Below.refl _ _
      have kk0 := (Kw21G.on Bw21)
      have kc0_0 := kk0.cell 0
      have kc0_1 := kk0.cell 1
      simp only [List.getElem?_toArray, List.getElem?_cons_succ, List.getElem?_cons_zero] at kc0_0 kc0_1
      have kz0 := kk0.lt
      go_wp2_with fail
      clear kk0 kz0 kc0_0 kc0_1
      with_reducible refine (heldStore_any _ _ _ _ _ _ _ ((tl_own ow21 lw21 (by rw [mkT_len, lens_len]; exact Tw11.x) uw21).on Bw21) hls (by omega) (by omega)).mono ?_
      rintro e w22 ⟨rfl, hbw22⟩
      have zw22 := hbw22.size
      replace B0 := below_on hbw22 B0
      replace Bv := below_on hbw22 Bv
      replace Bw6 := below_on hbw22 Bw6
      replace Bw21 := below_on hbw22 Bw21
      have kk0 := (P0.on Bv)
      have kc0_0 := kk0.cell 0
      have kc0_1 := kk0.cell 1
      simp only [List.getElem?_toArray, List.getElem?_cons_succ, List.getElem?_cons_zero] at kc0_0 kc0_1
      have kz0 := kk0.lt
      have kk1 := (P1.on Bv)
      have kc1_0 := kk1.cell 0
      have kc1_1 := kk1.cell 1
      simp only [List.getElem?_toArray, List.getElem?_cons_succ, List.getElem?_cons_zero] at kc1_0 kc1_1
      have kz1 := kk1.lt
      go_wp2_with fail
      go_cut [15, 16] from 94 (fun pp cc w' => ∃ (g9 : Nat) (A9 : Option Addr) (n9 c9 : Nat), pp = .pointer (some ⟨g9, 0, none⟩) ∧ cc = .int .i64 (addE z0 xs0 (s1, xs1)) ∧ Below w22.heap.size w22 w' ∧ Hid (TL w' w'.heap.size A9 n9 c9 (addL z0 xs0 (s1, xs1))) ∧ Blk w' g9 31 #[.int .i64 (addZ z0 xs0 (s1, xs1)), .slice A9 n9 c9])
      case first =>
        go_region_law (first | (go_simp; go_at_call 16; refine (toStore_any z0 A0 n0 cp0 xs0 _ (r0.on (by first | exact B0.drew | exact (B0.alloc B0.size _).drew)) htotT_xs0).mono ?_; rintro e w23 ⟨qw23, sw23, rfl, ow23, lw23, uw23, dw23, hbw23⟩; have hsw23 : Below w22.heap.size w22 w23 := (by first | exact below_app (Below.refl _ _).drew hbw23 (Nat.le_refl _) | exact below_app ((Below.refl _ _).alloc (Nat.le_refl _) _).drew hbw23 (by simp)); have zsw23 := hsw23.size; (first | (have Jw23 := (Blk.new w22 31 #[.int .i64 0, .slice none 0 0]).drew.on hbw23; obtain ⟨j0w23, j1w23, f0w23, f1w23, zjw23⟩ := Jw23.two) | skip); have B0w23 := below_on hsw23 B0; have Bvw23 := below_on hsw23 Bv; have Bw6w23 := below_on hsw23 Bw6; have Bw21w23 := below_on hsw23 Bw21; have Bw23 : Below w23.heap.size w23 w23 := Below.refl _ _; obtain ⟨l0p0w23, l1p0w23, _, _, lzp0w23⟩ := ((P0).on Bvw23).two; obtain ⟨l0p1w23, l1p1w23, _, _, lzp1w23⟩ := ((P1).on Bvw23).two) | (go_simp; go_at_call 34; refine (toTemplate_any s1 A1 n1 cp1 xs1 _ (r1.on (by first | exact B0w23 | exact B0w23.alloc B0w23.size _)) hn1).mono ?_; rintro e w24 ⟨qw24, rfl, ow24, hbw24⟩; have hsw24 : Below w23.heap.size w23 w24 := (by first | exact below_app (Below.refl _ _) hbw24 (Nat.le_refl _) | exact below_app ((Below.refl _ _).alloc (Nat.le_refl _) _) hbw24 (by simp)); have zsw24 := hsw24.size; (first | (have Jw24 := Jw23.on hbw24; obtain ⟨j0w24, j1w24, f0w24, f1w24, zjw24⟩ := Jw24.two) | (have Jw24 := (Blk.new w23 31 #[.int .i64 0, .slice none 0 0]).on hbw24; obtain ⟨j0w24, j1w24, f0w24, f1w24, zjw24⟩ := Jw24.two) | skip); have B0w23w24 := below_on hsw24 B0w23; have Bvw23w24 := below_on hsw24 Bvw23; have Bw6w23w24 := below_on hsw24 Bw6w23; have Bw21w23w24 := below_on hsw24 Bw21w23; have Bw23w24 := below_on hsw24 Bw23; have Bw24 : Below w24.heap.size w24 w24 := Below.refl _ _; obtain ⟨l0p0w24, l1p0w24, _, _, lzp0w24⟩ := ((P0).on Bvw23w24).two; obtain ⟨l0p1w24, l1p1w24, _, _, lzp1w24⟩ := ((P1).on Bvw23w24).two) | (go_simp; go_at_call 35; refine (iAdd_any z0 _ _ _ xs0 s1 _ _ _ xs1 _ ((tl_own ow23 lw23 r0.len uw23).on (by first | exact Bw23w24 | exact Bw23w24.alloc Bw23w24.size _)) htotT_xs0 gs1 ((RdL.of_own r1.len ow24).on (by first | exact Bw24 | exact Bw24.alloc Bw24.size _)) hn1).mono ?_; rintro e w25 ⟨Aw25, nw25, cw25, sw25, rfl, Tw25, hbw25⟩; have hsw25 : Below w24.heap.size w24 w25 := (by first | exact below_app (Below.refl _ _) hbw25 (Nat.le_refl _) | exact below_app ((Below.refl _ _).alloc (Nat.le_refl _) _) hbw25 (by simp)); have zsw25 := hsw25.size; (first | (have Jw25 := Jw24.on hbw25; obtain ⟨j0w25, j1w25, f0w25, f1w25, zjw25⟩ := Jw25.two) | (have Jw25 := (Blk.new w24 31 #[.int .i64 0, .slice none 0 0]).on hbw25; obtain ⟨j0w25, j1w25, f0w25, f1w25, zjw25⟩ := Jw25.two) | skip); have B0w23w24w25 := below_on hsw25 B0w23w24; have Bvw23w24w25 := below_on hsw25 Bvw23w24; have Bw6w23w24w25 := below_on hsw25 Bw6w23w24; have Bw21w23w24w25 := below_on hsw25 Bw21w23w24; have Bw23w24w25 := below_on hsw25 Bw23w24; have Bw24w25 := below_on hsw25 Bw24; have Bw25 : Below w25.heap.size w25 w25 := Below.refl _ _; obtain ⟨l0p0w25, l1p0w25, _, _, lzp0w25⟩ := ((P0).on Bvw23w24w25).two; obtain ⟨l0p1w25, l1p1w25, _, _, lzp1w25⟩ := ((P1).on Bvw23w24w25).two))
        all_goals
          go_wp2
          go_meet
          have hTot : Below w22.heap.size w22 w25 := (below_on hsw25 (below_on hsw24 hsw23))
          first | exact ⟨w25.heap.size, Aw25, nw25, cw25, rfl, rfl, hTot.alloc hTot.size _, Tw25.tl.on ((Below.refl _ _).alloc (Nat.le_refl _) _), Blk.new _ _ _⟩ | exact ⟨_, Aw25, nw25, cw25, rfl, rfl, (hTot.setCell (by simp only; omega) _).setCell (by simp only; omega) _, ((Tw25.off Jw25 (by decide) (by decide) 0 _).off (Jw25.set_ 0 _) (by decide) (by decide) 1 _).tl, by simpa using (Jw25.set_ 0 _).set_ 1 _⟩
      case rest =>
        obtain ⟨gw26, Aw26, nw26, cw26, rfl, rfl, hbw26, Tw26, Jw26⟩ := hcut
        rename World => w26
        clear kk0 kz0 kc0_0 kc0_1 kk1 kz1 kc1_0 kc1_1
        have zw26 := hbw26.size
        replace B0 := below_on hbw26 B0
        replace Bv := below_on hbw26 Bv
        replace Bw6 := below_on hbw26 Bw6
        replace Bw21 := below_on hbw26 Bw21
        have Bw26 : Below w26.heap.size w26 w26 := Below.refl _ _
        have kk0 := (Jw26.on Bw26)
        have kc0_0 := kk0.cell 0
        have kc0_1 := kk0.cell 1
        simp only [List.getElem?_toArray, List.getElem?_cons_succ, List.getElem?_cons_zero] at kc0_0 kc0_1
        have kz0 := kk0.lt
        have kk1 := (Jw6.on Bw6)
        have kc1_0 := kk1.cell 0
        have kc1_1 := kk1.cell 1
        simp only [List.getElem?_toArray, List.getElem?_cons_succ, List.getElem?_cons_zero] at kc1_0 kc1_1
        have kz1 := kk1.lt
        go_wp2_with fail
        clear kk0 kz0 kc0_0 kc0_1 kk1 kz1 kc1_0 kc1_1
        with_reducible refine (eqStore_yes _ _ _ _ _ _ _ _ _ (Tw26.out.on Bw26) (Tw6.out.on Bw6) (addL_tot z0 xs0 (s1, xs1))).mono ?_
        rintro e w27 ⟨rfl, hbw27⟩
        have zw27 := hbw27.size
        replace B0 := below_on hbw27 B0
        replace Bv := below_on hbw27 Bv
        replace Bw6 := below_on hbw27 Bw6
        replace Bw21 := below_on hbw27 Bw21
        replace Bw26 := below_on hbw27 Bw26
        have kk0 := (Kw21G.on Bw21)
        have kc0_0 := kk0.cell 0
        have kc0_1 := kk0.cell 1
        simp only [List.getElem?_toArray, List.getElem?_cons_succ, List.getElem?_cons_zero] at kc0_0 kc0_1
        have kz0 := kk0.lt
        go_wp2_with fail
        clear kk0 kz0 kc0_0 kc0_1
        with_reducible refine (heldStore_any _ _ _ _ _ _ _ ((tl_own ow21 lw21 (by rw [mkT_len, lens_len]; exact Tw11.x) uw21).on Bw21) hls (by omega) (by omega)).mono ?_
        rintro e w28 ⟨rfl, hbw28⟩
        have zw28 := hbw28.size
        replace B0 := below_on hbw28 B0
        replace Bv := below_on hbw28 Bv
        replace Bw6 := below_on hbw28 Bw6
        replace Bw21 := below_on hbw28 Bw21
        replace Bw26 := below_on hbw28 Bw26
        go_wp2
        go_ret
        exact ⟨rfl, B0⟩
  · by_cases hs0 : totT xs0 ≤ 1048576
    · go_enter Try.func7, Try.ntmps7
      go_wp2_with fail
      have B0 : Below w.heap.size w ((w.alloc (.cells #[.int .i64 z0, .slice A0 n0 cp0] 24)).alloc (.cells #[.string s1, .slice A1 n1 cp1] 52)) := (by repeat (first | exact Below.refl _ _ | assumption | refine Below.drew ?_ | refine below_drewN ?_ _ | refine Below.alloc ?_ (by first | omega | (simp <;> omega)) _ | refine Below.setCell ?_ (by first | omega | (simp <;> omega)) _))
      have P0 : Blk ((w.alloc (.cells #[.int .i64 z0, .slice A0 n0 cp0] 24)).alloc (.cells #[.string s1, .slice A1 n1 cp1] 52)) (w.heap.size) 24 #[.int .i64 z0, .slice A0 n0 cp0] := by have hk := (Blk.new w 24 #[.int .i64 z0, .slice A0 n0 cp0]).alloc (.cells #[.string s1, .slice A1 n1 cp1] 52); simpa using hk
      have P1 : Blk ((w.alloc (.cells #[.int .i64 z0, .slice A0 n0 cp0] 24)).alloc (.cells #[.string s1, .slice A1 n1 cp1] 52)) (w.heap.size + 1) 52 #[.string s1, .slice A1 n1 cp1] := by have hk := Blk.new (w.alloc (.cells #[.int .i64 z0, .slice A0 n0 cp0] 24)) 52 #[.string s1, .slice A1 n1 cp1]; simpa using hk
      generalize ((w.alloc (.cells #[.int .i64 z0, .slice A0 n0 cp0] 24)).alloc (.cells #[.string s1, .slice A1 n1 cp1] 52)) = v at *
      have Bv : Below v.heap.size v v := Below.refl _ _
      have zv := B0.size
      with_reducible refine (szStore_yes z0 _ _ _ xs0 _ _ (r0.on B0) (fun x hx => (g0 x hx).2) (by omega) (by omega) (by omega)).mono ?_
      rintro e w1 ⟨rfl, hbw1⟩
      have zw1 := hbw1.size
      replace B0 := below_on hbw1 B0
      replace Bv := below_on hbw1 Bv
      have kk0 := (P1.on Bv)
      have kc0_0 := kk0.cell 0
      have kc0_1 := kk0.cell 1
      simp only [List.getElem?_toArray, List.getElem?_cons_succ, List.getElem?_cons_zero] at kc0_0 kc0_1
      have kz0 := kk0.lt
      go_wp2_with fail
      clear kk0 kz0 kc0_0 kc0_1
      with_reducible refine (szTemplate_no s1 _ _ _ _ _ hss1 (by omega) (by omega) (by omega) (by omega)).mono ?_
      rintro e w2 ⟨rfl, hbw2⟩
      have zw2 := hbw2.size
      replace B0 := below_on hbw2 B0
      replace Bv := below_on hbw2 Bv
      go_wp2
      go_ret
      exact ⟨rfl, B0⟩
    · go_enter Try.func7, Try.ntmps7
      go_wp2_with fail
      have B0 : Below w.heap.size w ((w.alloc (.cells #[.int .i64 z0, .slice A0 n0 cp0] 24)).alloc (.cells #[.string s1, .slice A1 n1 cp1] 52)) := (by repeat (first | exact Below.refl _ _ | assumption | refine Below.drew ?_ | refine below_drewN ?_ _ | refine Below.alloc ?_ (by first | omega | (simp <;> omega)) _ | refine Below.setCell ?_ (by first | omega | (simp <;> omega)) _))
      have P0 : Blk ((w.alloc (.cells #[.int .i64 z0, .slice A0 n0 cp0] 24)).alloc (.cells #[.string s1, .slice A1 n1 cp1] 52)) (w.heap.size) 24 #[.int .i64 z0, .slice A0 n0 cp0] := by have hk := (Blk.new w 24 #[.int .i64 z0, .slice A0 n0 cp0]).alloc (.cells #[.string s1, .slice A1 n1 cp1] 52); simpa using hk
      have P1 : Blk ((w.alloc (.cells #[.int .i64 z0, .slice A0 n0 cp0] 24)).alloc (.cells #[.string s1, .slice A1 n1 cp1] 52)) (w.heap.size + 1) 52 #[.string s1, .slice A1 n1 cp1] := by have hk := Blk.new (w.alloc (.cells #[.int .i64 z0, .slice A0 n0 cp0] 24)) 52 #[.string s1, .slice A1 n1 cp1]; simpa using hk
      generalize ((w.alloc (.cells #[.int .i64 z0, .slice A0 n0 cp0] 24)).alloc (.cells #[.string s1, .slice A1 n1 cp1] 52)) = v at *
      have Bv : Below v.heap.size v v := Below.refl _ _
      have zv := B0.size
      with_reducible refine (szStore_no z0 _ _ _ xs0 _ _ (r0.on B0) (fun x hx => (g0 x hx).2) (by omega) (by omega) (by omega)).mono ?_
      rintro e w1 ⟨rfl, hbw1⟩
      have zw1 := hbw1.size
      replace B0 := below_on hbw1 B0
      replace Bv := below_on hbw1 Bv
      go_wp2
      go_ret
      exact ⟨rfl, B0⟩

/-! ### From the walk to the statement -/
set_option maxRecDepth 100000 in
theorem lifted (os : Os) (started : os.Started) (H : Type) (enc : TypeId × Value → H) :
    ReturnsInHanded {} Try.checked os 7 .any (Rows.fnExactAddTemplateSpec.pre6 enc Try.prog Try.f7 Rows.fnExactAddTemplateRow.domain false) (Rows.fnExactAddTemplateSpec.post enc Try.prog Try.f7 false true false false) := by
  refine returnsInHanded_of_change (C := Try.checked) Try.own started (by kernel_rfl) Try.func7
    (ChangeSpec.witness6 (enc := enc) (C := Try.checked) false ⟨#[], #[.agg #[.int .i64 0, .slice none 0 0], .agg #[.string ByteArray.empty, .slice none 0 0]], []⟩ 8 (by kernel_rfl) (by kernel_rfl) (by kernel_rfl) (by kernel_rfl)) ?_
  intro W base args ds gs before hval0 hW hcnd _
  have hval : ∀ (j : Nat) t v, Try.f7.params[j]? = some t → args[j]? = some v → Value.okWide Try.prog W .any base t v := hval0
  have hW' := hW
  obtain ⟨p, q, hA0, hV, rfl, hfz, hnd⟩ := hW
  have hA : DataW.TrodAll enc Try.prog W 0 (fun _ => true) true Try.f7.params.toList args.toList ds p := hA0
  rw [Try.params7] at hA hval
  obtain ⟨v0, vs0, d0, ds0, p0, q0, hargs, rfl, rfl, h0, tr0⟩ := trodAll_cons hA
  obtain ⟨v1, vs1, d1, ds1, p1, q1, rfl, rfl, rfl, h1, tr1⟩ := trodAll_cons tr0
  obtain ⟨rfl, rfl, rfl⟩ := trodAll_nil tr1
  obtain rfl : args = #[v0, v1] := by cases args; simp_all
  obtain ⟨rfl, rfl⟩ := trodVars_none hV
  have k0 := h0
  have lt0 : ∀ x ∈ p0, x.block < W.heap.size := by obtain ⟨m, hm⟩ := k0; exact DataW.trod_lt m _ _ _ hm
  obtain ⟨z0, A0, n0, cp0, xs0, rfl, r0, g0, gz0⟩ := opStore (hval 0 24 v0 rfl rfl) h0
  have k1 := h1
  have lt1 : ∀ x ∈ p1, x.block < W.heap.size := by obtain ⟨m, hm⟩ := k1; exact DataW.trod_lt m _ _ _ hm
  obtain ⟨s1, A1, n1, cp1, xs1, rfl, r1, g1, gs1⟩ := opTemplate (hval 1 52 v1 rfl rfl) h1
  clear hA0 hval0
  refine (walk z0 A0 n0 cp0 xs0 s1 A1 n1 cp1 xs1 W r0 g0 gz0 r1 g1 gs1).mono fun e W' ⟨he, bel⟩ => ?_
  subst he
  exact ⟨_, rfl, _, _, _, [], _, [], hW', trodAll_mk1 (shut_bool Try.underlying4 _), (trodAll_cons_mk (Below.trod Try.laidOut (by kernel_rfl) (of_decide_eq_true (by kernel_rfl)) k0 bel lt0) (trodAll_cons_mk (Below.trod Try.laidOut (by kernel_rfl) (of_decide_eq_true (by kernel_rfl)) k1 bel lt1) trodAll_mk0)), rfl, bel.frame _, fun h => by cases h⟩

theorem over : Rows.fnExactAddTemplateRow.holds Try.pinned (OpenSpec.ofChange Rows.fnExactAddTemplateSpec) :=
  OpenClaim.holds_of_wide 7 Try.f7 rfl rfl rfl rfl rfl rfl rfl ⟨rfl, rfl, rfl, rfl, rfl⟩ rfl rfl rfl rfl rfl (by kernel_rfl) Try.func7 (by kernel_rfl)
    (of_decide_eq_true (by kernel_rfl)) (by unfold Func.isWrapper; first | (rw [if_pos (by decide +kernel)]; kernel_rfl) | (rw [if_neg (by decide +kernel)]; exact ⟨rfl, rfl⟩))
    (fun os started H enc _ => lifted os started H enc)

theorem proved : Rows.FnExactAddTemplateSaid := over
end fnExactAddTemplate
end Go.Proofs.Ytammapaockmjkaa
