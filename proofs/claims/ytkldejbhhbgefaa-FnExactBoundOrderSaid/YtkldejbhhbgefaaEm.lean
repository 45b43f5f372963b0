/- Envelopes made by the program. -/
import Derived.Test.YtkldejbhhbgefaaEo
import Derived.Test.YtkldejbhhbgefaaSu
import Derived.Test.YtkldejbhhbgefaaBx
import Derived.BigRegion
namespace Go.Proofs.Ytkldejbhhbgefaa
open Go.ChangeShapes Go.WideShapes Go.ChangeAt Go.RowKit
set_option linter.unusedVariables false
set_option linter.unusedSimpArgs false
/-- A part that ends in one frame and one world: so that what comes behind it is no part of its proof. -/
def atNormal (A' : Act) (W' : World) : Exit → Act → World → Prop
  | .normal, a, w => a = A' ∧ w = W'
  | _, _, _ => False
theorem atNormal_mk (A' : Act) (W' : World) : atNormal A' W' .normal A' W' := ⟨rfl, rfl⟩
theorem wp_end {P : Program} {c : Code} {Q : Exit → Act → World → Prop} {a A' : Act} {w W' : World} (h : c.wp P (atNormal A' W') a w) (k : Q .normal A' W') : c.wp P Q a w :=
  Code.wp_mono (fun e a w h => by
    match e, h with
    | .normal, h => obtain ⟨h1, h2⟩ := h; rw [h1, h2]; exact k) h
set_option maxRecDepth 100000 in
set_option maxHeartbeats 8000000 in
theorem envelopeOf_any (Q : Option Addr) (n c : Nat) (xs : List T3) (N bd : Nat) (w : World) (hr : RdL c3 3 w w.heap.size Q n c xs) (hok : featsOk 72 xs = true) (hn1 : 1 ≤ n) (hn : n ≤ 72) (hN : N ≤ 72) (hbd : bd ≤ 72) (hNn : N ≤ n + bd) :
    Calls Try.prog 87 #[.slice Q n c, .int .i64 N, .int .i64 bd] w fun e w' => ∃ A B C D ca cb cc cd, e = .returned (.agg #[.slice A N ca, .slice B N cb, .slice C N cc, .slice D N cd]) ∧
      R4 w' w.heap.size N A B C D ca cb cc cd (mnL pX xs bd N) (mxL pX xs bd N) (mnL pY xs bd N) (mxL pY xs bd N) ∧ Below w.heap.size w w' := by
  have hl := Lib.hid hr.len
  have Hok := Lib.hid hok
  have HR := Lib.hid hr
  clear hok hr
  have KO : Blk ((w.alloc (.cells #[.slice none 0 0, .slice none 0 0, .slice none 0 0, .slice none 0 0] 117)).alloc (.cells #[.slice none 0 0, .slice none 0 0, .slice none 0 0, .slice none 0 0] 117)) w.heap.size 117 #[.slice none 0 0, .slice none 0 0, .slice none 0 0, .slice none 0 0] := (Blk.new _ _ _).alloc _
  have KE : Blk ((w.alloc (.cells #[.slice none 0 0, .slice none 0 0, .slice none 0 0, .slice none 0 0] 117)).alloc (.cells #[.slice none 0 0, .slice none 0 0, .slice none 0 0, .slice none 0 0] 117)) (w.heap.size + 1) 117 #[.slice none 0 0, .slice none 0 0, .slice none 0 0, .slice none 0 0] := by have h := Blk.new (w.alloc (.cells #[.slice none 0 0, .slice none 0 0, .slice none 0 0, .slice none 0 0] 117)) 117 #[.slice none 0 0, .slice none 0 0, .slice none 0 0, .slice none 0 0]; simpa using h
  have hB : Below w.heap.size w ((w.alloc (.cells #[.slice none 0 0, .slice none 0 0, .slice none 0 0, .slice none 0 0] 117)).alloc (.cells #[.slice none 0 0, .slice none 0 0, .slice none 0 0, .slice none 0 0] 117)) := (by repeat (first | exact Below.refl _ _ | assumption | refine Below.drew ?_ | refine below_drewN ?_ _ | refine Below.alloc ?_ (by first | omega | (simp <;> omega)) _ | refine Below.setCell ?_ (by first | omega | (simp <;> omega)) _))
  go_enter Try.func87, Try.ntmps87
  go_wp2_with fail
  generalize (w.alloc (.cells #[.slice none 0 0, .slice none 0 0, .slice none 0 0, .slice none 0 0] 117)).alloc (.cells #[.slice none 0 0, .slice none 0 0, .slice none 0 0, .slice none 0 0] 117) = v at *
  go_loopw [16] (fun i wr => ∃ (k ca cb cc cd : Nat) (A B C D : Option Addr), k ≤ N ∧ i = .int .i64 k ∧ Below w.heap.size w wr ∧ Blk wr w.heap.size 117 #[.slice none 0 0, .slice none 0 0, .slice none 0 0, .slice none 0 0] ∧ Blk wr (w.heap.size + 1) 117 #[.slice A k ca, .slice B k cb, .slice C k cc, .slice D k cd] ∧
      Hid (R4 wr (w.heap.size + 2) k A B C D ca cb cc cd (mnL pX xs bd k) (mxL pX xs bd k) (mnL pY xs bd k) (mxL pY xs bd k))) (fun i _ => N - (intOf i).toNat)
  case atStart => exact ⟨0, 0, 0, 0, 0, none, none, none, none, by omega, rfl, hB, KO, KE, R4.nil _ _⟩
  case round =>
    clear hB KO KE
    rename World => wo
    obtain ⟨k, ca, cb, cc, cd, A, B, C, D, hk, rfl, hb, KO, KE, HR4⟩ := hrel
    by_cases hlt : k < N
    · obtain ⟨w1_, w2_, w3_, w4_⟩ := win_ok (n := N) (m := n) (bd := bd) hlt hn1 hNn
      have i1 : (k : Int) < (N : Int) := by omega
      obtain ⟨a, ha⟩ : ∃ a : Nat, a = k - bd := ⟨_, rfl⟩
      obtain ⟨q, hq⟩ : ∃ q : Nat, q = wMany n bd k := ⟨_, rfl⟩
      simp only [← ha, ← hq] at w1_ w2_ w3_ w4_
      have o1 : IntKind.i64.wrap ((k : Int) - (bd : Int)) = (k : Int) - (bd : Int) := IntWalk.i64_in _ (by omega)
      have o2 : IntKind.i64.wrap ((k : Int) + (bd : Int)) = (k : Int) + (bd : Int) := IntWalk.i64_in _ (by omega)
      have o3 : IntKind.i64.wrap ((k : Int) + (bd : Int) + 1) = (k : Int) + (bd : Int) + 1 := IntWalk.i64_in _ (by omega)
      have F3 : (if bd < k then (k : Int) - (bd : Int) else 0) = (a : Int) := by split <;> omega
      have F2 : (if (k : Int) + (bd : Int) + 1 < (n : Int) then (k : Int) + (bd : Int) + 1 else (n : Int)) = ((a + q : Nat) : Int) := by split <;> omega
      obtain ⟨t, ht⟩ : ∃ t : Nat, t = a + q := ⟨_, rfl⟩
      rw [← ht] at F2 w3_ w4_
      have HA := Lib.hid ha
      have HQ := Lib.hid hq
      have HT := Lib.hid ht
      clear ha hq w4_
      obtain ⟨b, off, x, y, d, rfl, hbl, hx, q0, q1, q2⟩ := (HR.out.below hb).at3 (show a < n by omega)
      have z1 := hb.size
      replace hbl := Nat.lt_of_lt_of_le hbl z1
      have i2 : (a : Int) < (n : Int) := by omega
      have i3 : (0 : Int) ≤ (a : Int) := by omega
      obtain ⟨⟨hx0, hx1⟩, ⟨hy0, hy1⟩, _⟩ := featB_iff.1 (show featB x y d = true from all_at (p := featOk) (x := (x, y, d)) (Bool.and_eq_true_iff.1 Hok.out).1 hx.out)
      have HX0 := Lib.hid (And.intro (And.intro hx0 hx1) (And.intro hy0 hy1))
      have HS := Lib.hid (RdL.sub c3_len (HR.out.on hb) (a := a) (k := q) (by rw [← ht]; exact w3_))
      clear hx0 hx1 hy0 hy1 ht
      have P := Lib.hid (And.intro KO (And.intro KE hb))
      clear KO KE
      go_wp2_with fail
      clear o1 o2 o3 F2 F3
      go_region_held3 (fun w' => w'.cell? ⟨b, off + a * 3, none⟩ = some (.int .i64 x) ∧ w'.cell? ⟨b, off + a * 3 + 1, none⟩ = some (.int .i64 y) ∧ w'.cell? ⟨b, off + a * 3 + 2, none⟩ = some (.int .i64 d)) (first | exact ⟨q0, q1, q2⟩ | go_keep) (fail)
      · have G1 : Blk ((wo.alloc (.cells #[.int .i64 x, .int .i64 y, .int .i64 d] 79)).alloc (.cells #[.int .i64 x, .int .i64 y, .int .i64 d] 79)).drew wo.heap.size 79 #[.int .i64 x, .int .i64 y, .int .i64 d] := ((Blk.new _ _ _).alloc _).drew
        have G2 : Blk ((wo.alloc (.cells #[.int .i64 x, .int .i64 y, .int .i64 d] 79)).alloc (.cells #[.int .i64 x, .int .i64 y, .int .i64 d] 79)).drew (wo.heap.size + 1) 79 #[.int .i64 x, .int .i64 y, .int .i64 d] := by have h := Blk.new (wo.alloc (.cells #[.int .i64 x, .int .i64 y, .int .i64 d] 79)) 79 #[.int .i64 x, .int .i64 y, .int .i64 d]; rw [World.size_alloc] at h; exact h.drew
        have hW : Below wo.heap.size wo ((wo.alloc (.cells #[.int .i64 x, .int .i64 y, .int .i64 d] 79)).alloc (.cells #[.int .i64 x, .int .i64 y, .int .i64 d] 79)).drew := (by repeat (first | exact Below.refl _ _ | assumption | refine Below.drew ?_ | refine below_drewN ?_ _ | refine Below.alloc ?_ (by first | omega | (simp <;> omega)) _ | refine Below.setCell ?_ (by first | omega | (simp <;> omega)) _))
        go_split_ands
        clear q0 q1 q2
        generalize ((wo.alloc (.cells #[.int .i64 x, .int .i64 y, .int .i64 d] 79)).alloc (.cells #[.int .i64 x, .int .i64 y, .int .i64 d] 79)).drew = wv at *
        have hg : wo.heap.size + 1 ≠ wo.heap.size := by omega
        have z2 : wo.heap.size ≤ wo.heap.size + 1 := by omega
        have z3 : wo.heap.size ≤ wo.heap.size := Nat.le_refl _
        have j1 : (a : Int) ≤ (t : Int) := by have := HT.out; omega
        have j2 : (t : Int) ≤ (c : Int) := by have := HR.out.cap; omega
        have j3 : ¬ c = a := by have := HR.out.cap; omega
        have q72 : q ≤ 72 := by have := HT.out; omega
        have e1 : t - a = q := by have := HT.out; omega
        go_wp2_with fail
        clear e1 j3 j1 j2
        obtain ⟨g1, hg1⟩ : ∃ g, g = wo.heap.size := ⟨_, rfl⟩
        obtain ⟨g2, hg2⟩ : ∃ g, g = wo.heap.size + 1 := ⟨_, rfl⟩
        rw [← hg2] at G2 ⊢
        rw [← hg1] at G1 ⊢
        have hne : g1 ≠ g2 := by omega
        have hge1 : wo.heap.size ≤ g1 := by omega
        have hge2 : wo.heap.size ≤ g2 := by omega
        clear hg1 hg2 hg z2 z3
        have HX := HX0
        go_loopw [43] (fun i wz => ∃ j : Nat, j ≤ q ∧ i = .int .i64 j ∧ Below wo.heap.size wo wz ∧ Blk wz g1 79 #[.int .i64 (mnW pX xs a (max j 1)), .int .i64 (mnW pY xs a (max j 1)), .int .i64 d] ∧ Blk wz g2 79 #[.int .i64 (mxW pX xs a (max j 1)), .int .i64 (mxW pY xs a (max j 1)), .int .i64 d]) (fun i _ => q - (intOf i).toNat)
        case atStart => exact ⟨0, by omega, rfl, hW, by rw [show max 0 1 = 1 by omega, mnW_one hx.out HX.out.1.2, mnW_one hx.out HX.out.2.2]; exact G1, by rw [show max 0 1 = 1 by omega, mxW_one hx.out HX.out.1.1, mxW_one hx.out HX.out.2.1]; exact G2⟩
        case round =>
          clear G1 G2 hW
          obtain ⟨j, hj, rfl, hbz, G1, G2⟩ := hrel
          by_cases hjq : j < q
          · have fmark := trivial
            obtain ⟨b', off', x', y', d', he, hbl', hx', p0, p1, p2⟩ := (HS.out.below hbz).at3 hjq
            cases he
            have hx2 := Lib.hid (sub_at hx'.out)
            obtain ⟨⟨fx0, fx1⟩, ⟨fy0, fy1⟩, _⟩ := featB_iff.1 (show featB x' y' d' = true from all_at (p := featOk) (x := (x', y', d')) (Bool.and_eq_true_iff.1 Hok.out).1 hx2.out)
            have V := Lib.hid (And.intro (mn_next (g := pX) hx2.out fx1) (And.intro (mn_next (g := pY) hx2.out fy1) (And.intro (mx_next (g := pX) hx2.out fx0) (mx_next (g := pY) hx2.out fy0))))
            obtain ⟨m0, hm0⟩ : ∃ m, mnW pX xs a (max j 1) = m := ⟨_, rfl⟩
            obtain ⟨m1, hm1⟩ : ∃ m, mnW pY xs a (max j 1) = m := ⟨_, rfl⟩
            obtain ⟨m2, hm2⟩ : ∃ m, mxW pX xs a (max j 1) = m := ⟨_, rfl⟩
            obtain ⟨m3, hm3⟩ : ∃ m, mxW pY xs a (max j 1) = m := ⟨_, rfl⟩
            rw [hm0, hm1] at G1
            rw [hm2, hm3] at G2
            rw [hm0, hm1, hm2, hm3] at V
            clear hm0 hm1 hm2 hm3 fx0 fx1 fy0 fy1 hx'
            have zz := hbz.size
            replace hbl' := Nat.lt_of_lt_of_le hbl' zz
            have y1 : (j : Int) < (q : Int) := by omega
            have y2 : (0 : Int) ≤ (j : Int) := by omega
            have zg1 := G1.lt
            have zg2 := G2.lt
            go_wp2_with fail
            clear p0 p1 p2
            have G3 := Blk.new wr 79 #[.int .i64 x', .int .i64 y', .int .i64 d']
            have hbw : Below wr.heap.size wr (wr.alloc (.cells #[.int .i64 x', .int .i64 y', .int .i64 d'] 79)) := (Below.refl _ _).alloc (Nat.le_refl _) _
            replace G1 := G1.on hbw
            replace G2 := G2.on hbw
            replace hbz : Below wo.heap.size wo (wr.alloc (.cells #[.int .i64 x', .int .i64 y', .int .i64 d'] 79)) := below_app hbz hbw zz
            generalize wr.alloc (.cells #[.int .i64 x', .int .i64 y', .int .i64 d'] 79) = wy at *
            obtain ⟨g3, hg3⟩ : ∃ g, g = wr.heap.size := ⟨_, rfl⟩
            rw [← hg3] at G3 ⊢
            have n1 : ¬ g1 = g2 := hne
            have n2 : ¬ g1 = g3 := by omega
            have n3 : ¬ g2 = g3 := by omega
            have HG3 := Lib.hid hg3
            clear hg3
            have aa0 := G1.cell 0
            have aa1 := G1.cell 1
            have aa2 := G1.cell 2
            simp only [List.getElem?_toArray, List.getElem?_cons_succ, List.getElem?_cons_zero] at aa0 aa1 aa2
            have bb0 := G2.cell 0
            have bb1 := G2.cell 1
            have bb2 := G2.cell 2
            simp only [List.getElem?_toArray, List.getElem?_cons_succ, List.getElem?_cons_zero] at bb0 bb1 bb2
            have cc0 := G3.cell 0
            have cc1 := G3.cell 1
            have cc2 := G3.cell 2
            simp only [List.getElem?_toArray, List.getElem?_cons_succ, List.getElem?_cons_zero] at cc0 cc1 cc2
            have fa0 := G1.frozen 0
            have fa1 := G1.frozen 1
            have fa2 := G1.frozen 2
            have fb0 := G2.frozen 0
            have fb1 := G2.frozen 1
            have fb2 := G2.frozen 2
            apply wp_end
            case h =>
              go_region
              exact atNormal_mk _ _
            obtain ⟨r0, hr0⟩ : ∃ r, Hid (r = if x' < m0 then x' else m0) := ⟨_, rfl⟩
            obtain ⟨r2, hr2⟩ : ∃ r, Hid (r = if m2 < x' then x' else m2) := ⟨_, rfl⟩
            rw [← hr0.out, ← hr2.out]
            clear aa0 aa1 aa2 bb0 bb1 bb2 cc0 cc1 cc2 fa0 fa1 fa2 fb0 fb1 fb2
            have zg1' := G1.lt
            have zg2' := G2.lt
            replace hbz : Below wo.heap.size wo (((wy.setCell ⟨g1, 0, none⟩ (.int .i64 r0)).setCell ⟨g2, 0, none⟩ (.int .i64 r2)).drew) := ((hbz.setCell (p := ⟨g1, 0, none⟩) hge1 _).setCell (p := ⟨g2, 0, none⟩) hge2 _).drew
            replace G1 := ((G1.set_ 0 (.int .i64 r0)).far (p := ⟨g2, 0, none⟩) n1 (.int .i64 r2)).drew
            replace G2 := ((G2.far (p := ⟨g1, 0, none⟩) (fun e => n1 e.symm) (.int .i64 r0)).set_ 0 (.int .i64 r2)).drew
            replace G3 := ((G3.far (p := ⟨g1, 0, none⟩) (fun e => n2 e.symm) (.int .i64 r0)).far (p := ⟨g2, 0, none⟩) (fun e => n3 e.symm) (.int .i64 r2)).drew
            simp only [List.setIfInBounds_toArray, List.set_cons_zero, List.set_cons_succ] at G1 G2
            generalize (((wy.setCell ⟨g1, 0, none⟩ (.int .i64 r0)).setCell ⟨g2, 0, none⟩ (.int .i64 r2)).drew) = wx at *
            go_wp2_with fail
            have aa0 := G1.cell 0
            have aa1 := G1.cell 1
            have aa2 := G1.cell 2
            simp only [List.getElem?_toArray, List.getElem?_cons_succ, List.getElem?_cons_zero] at aa0 aa1 aa2
            have bb0 := G2.cell 0
            have bb1 := G2.cell 1
            have bb2 := G2.cell 2
            simp only [List.getElem?_toArray, List.getElem?_cons_succ, List.getElem?_cons_zero] at bb0 bb1 bb2
            have cc0 := G3.cell 0
            have cc1 := G3.cell 1
            have cc2 := G3.cell 2
            simp only [List.getElem?_toArray, List.getElem?_cons_succ, List.getElem?_cons_zero] at cc0 cc1 cc2
            have fa0 := G1.frozen 0
            have fa1 := G1.frozen 1
            have fa2 := G1.frozen 2
            have fb0 := G2.frozen 0
            have fb1 := G2.frozen 1
            have fb2 := G2.frozen 2
            apply wp_end
            case h =>
              go_region
              exact atNormal_mk _ _
            obtain ⟨r1, hr1⟩ : ∃ r, Hid (r = if y' < m1 then y' else m1) := ⟨_, rfl⟩
            obtain ⟨r3, hr3⟩ : ∃ r, Hid (r = if m3 < y' then y' else m3) := ⟨_, rfl⟩
            rw [← hr1.out, ← hr3.out]
            clear aa0 aa1 aa2 bb0 bb1 bb2 cc0 cc1 cc2 fa0 fa1 fa2 fb0 fb1 fb2
            replace hbz : Below wo.heap.size wo (((wx.setCell ⟨g1, 1, none⟩ (.int .i64 r1)).setCell ⟨g2, 1, none⟩ (.int .i64 r3)).drew) := ((hbz.setCell (p := ⟨g1, 1, none⟩) hge1 _).setCell (p := ⟨g2, 1, none⟩) hge2 _).drew
            replace G1 := ((G1.set_ 1 (.int .i64 r1)).far (p := ⟨g2, 1, none⟩) n1 (.int .i64 r3)).drew
            replace G2 := ((G2.far (p := ⟨g1, 1, none⟩) (fun e => n1 e.symm) (.int .i64 r1)).set_ 1 (.int .i64 r3)).drew
            simp only [List.setIfInBounds_toArray, List.set_cons_zero, List.set_cons_succ] at G1 G2
            clear G3 hbw
            generalize (((wx.setCell ⟨g1, 1, none⟩ (.int .i64 r1)).setCell ⟨g2, 1, none⟩ (.int .i64 r3)).drew) = wu at *
            go_wp2
            obtain ⟨V1, V2, V3, V4⟩ := V.out
            replace V1 := V1.trans hr0.out.symm
            replace V2 := V2.trans hr1.out.symm
            replace V3 := V3.trans hr2.out.symm
            replace V4 := V4.trans hr3.out.symm
            exact ⟨⟨j + 1, by omega, by go_num, hbz, by rw [V1, V2]; exact G1, by rw [V3, V4]; exact G2⟩, by simp [intOf]; omega⟩
          · have hjq2 : j = q := by omega
            have hq1 : max j 1 = q := by omega
            rw [hq1] at G1 G2
            subst hjq2
            clear hq1
            rename World => wi
            have zo1 := hge1
            go_wp2_with fail
            obtain ⟨KO, KE, hb⟩ := P.out
            obtain ⟨oA, oB, oC, oD, jAB, jAC, jAD, jBC, jBD, jCD⟩ := HR4.out
            have HF : Hid (mnL pX xs bd (k + 1) = mnL pX xs bd k ++ [mnW pX xs a j] ∧ mxL pX xs bd (k + 1) = mxL pX xs bd k ++ [mxW pX xs a j] ∧ mnL pY xs bd (k + 1) = mnL pY xs bd k ++ [mnW pY xs a j] ∧ mxL pY xs bd (k + 1) = mxL pY xs bd k ++ [mxW pY xs a j]) := by
              rw [HA.out, HQ.out]
              exact ⟨by rw [mnL_step, hl.out], by rw [mxL_step, hl.out], by rw [mnL_step, hl.out], by rw [mxL_step, hl.out]⟩
            generalize mnL pX xs bd k = L0 at *
            generalize mxL pX xs bd k = L1 at *
            generalize mnL pY xs bd k = L2 at *
            generalize mxL pY xs bd k = L3 at *
            have zKE := KE.lt
            have zwi := hbz.size
            have lA' := own_blk oA
            have lB' := own_blk oB
            have lC' := own_blk oC
            have lD' := own_blk oD
            replace KO := KO.on hbz
            replace KE := KE.on hbz
            replace oA := own_below oA hbz
            replace oB := own_below oB hbz
            replace oC := own_below oC hbz
            replace oD := own_below oD hbz
            replace hb := below_on hbz hb
            clear P HR4 HX HX0 HS hx i2 i3 hjq hj
            have G1' := G1.drew
            have G2' := G2.drew
            have KE' := KE.drew
            obtain ⟨e0, e1, e2, e3, _⟩ := blk4_at KE'
            have aa0 := G1'.cell 0
            have aa1 := G1'.cell 1
            have aa2 := G1'.cell 2
            simp only [List.getElem?_toArray, List.getElem?_cons_succ, List.getElem?_cons_zero] at aa0 aa1 aa2
            have bb0 := G2'.cell 0
            have bb1 := G2'.cell 1
            have bb2 := G2'.cell 2
            simp only [List.getElem?_toArray, List.getElem?_cons_succ, List.getElem?_cons_zero] at bb0 bb1 bb2
            refine wp_region_T (S := fun w' => Ev2 wi.drew w' A B) (D := #[true, true, true, true, true, true, true, true, true, true, true, true, true, false, false, false]) (is := [13, 14, 15]) (l := [_, _, _]) (n := 13) (by kernel_rfl) (by rfl) (by kernel_rfl) (by rfl) (Ev2.refl _ _ _) (fun hHeld => ?_)
            refine wpAnyT_take (i := 0) (oi := _) (v := .pointer (some ⟨w.heap.size + 1, 0, none⟩)) rfl (by kernel_rfl) (by kernel_rfl) (by kernel_rfl) (by kernel_rfl) rfl (by kernel_rfl) (fun _ _ _ h => h) (Or.inl ⟨by rfl, ?_⟩) (by assumption) ?_
            · intro w' hS'
              go_simp
            simp only [List.getElem_toArray, List.getElem_cons_zero, List.getElem_cons_succ, Act.put, List.setIfInBounds_toArray, List.set_cons_zero, List.set_cons_succ]
            refine wpAnyT_take (i := 1) (oi := _) (v := .slice A k ca) rfl (by kernel_rfl) (by kernel_rfl) (by kernel_rfl) (by kernel_rfl) rfl (by kernel_rfl) (fun _ _ _ h => h) (Or.inl ⟨by rfl, ?_⟩) (by assumption) ?_
            · intro w' hS'
              have c := hS'.cell (b := w.heap.size + 1) (o := 0) e0 (fun a ha => by have h9 := (lA' a ha).2; have h8 := (lA' a ha).1; omega) (fun a ha => by have h9 := (lB' a ha).2; have h8 := (lB' a ha).1; omega)
              go_simp
            simp only [List.getElem_toArray, List.getElem_cons_zero, List.getElem_cons_succ, Act.put, List.setIfInBounds_toArray, List.set_cons_zero, List.set_cons_succ]
            refine wpAnyT_take (i := 2) (oi := _) (v := .pointer (some ⟨g1, 0, none⟩)) rfl (by kernel_rfl) (by kernel_rfl) (by kernel_rfl) (by kernel_rfl) rfl (by kernel_rfl) (fun _ _ _ h => h) (Or.inl ⟨by rfl, ?_⟩) (by assumption) ?_
            · intro w' hS'
              go_simp
            simp only [List.getElem_toArray, List.getElem_cons_zero, List.getElem_cons_succ, Act.put, List.setIfInBounds_toArray, List.set_cons_zero, List.set_cons_succ]
            refine wpAnyT_take (i := 3) (oi := _) (v := .int .i64 (mnW pX xs a j)) rfl (by kernel_rfl) (by kernel_rfl) (by kernel_rfl) (by kernel_rfl) rfl (by kernel_rfl) (fun _ _ _ h => h) (Or.inl ⟨by rfl, ?_⟩) (by assumption) ?_
            · intro w' hS'
              have c := hS'.cell (b := g1) (o := 0) aa0 (fun a ha => by have h9 := (lA' a ha).2; have h8 := (lA' a ha).1; omega) (fun a ha => by have h9 := (lB' a ha).2; have h8 := (lB' a ha).1; omega)
              go_simp
            simp only [List.getElem_toArray, List.getElem_cons_zero, List.getElem_cons_succ, Act.put, List.setIfInBounds_toArray, List.set_cons_zero, List.set_cons_succ]
            refine wpAnyT_take (i := 6) (oi := _) (v := .pointer (some ⟨w.heap.size + 1, 1, none⟩)) rfl (by kernel_rfl) (by kernel_rfl) (by kernel_rfl) (by kernel_rfl) rfl (by kernel_rfl) (fun _ _ _ h => h) (Or.inl ⟨by rfl, ?_⟩) (by assumption) ?_
            · intro w' hS'
              go_simp
            simp only [List.getElem_toArray, List.getElem_cons_zero, List.getElem_cons_succ, Act.put, List.setIfInBounds_toArray, List.set_cons_zero, List.set_cons_succ]
            refine wpAnyT_take (i := 7) (oi := _) (v := .slice B k cb) rfl (by kernel_rfl) (by kernel_rfl) (by kernel_rfl) (by kernel_rfl) rfl (by kernel_rfl) (fun _ _ _ h => h) (Or.inl ⟨by rfl, ?_⟩) (by assumption) ?_
            · intro w' hS'
              have c := hS'.cell (b := w.heap.size + 1) (o := 1) e1 (fun a ha => by have h9 := (lA' a ha).2; have h8 := (lA' a ha).1; omega) (fun a ha => by have h9 := (lB' a ha).2; have h8 := (lB' a ha).1; omega)
              go_simp
            simp only [List.getElem_toArray, List.getElem_cons_zero, List.getElem_cons_succ, Act.put, List.setIfInBounds_toArray, List.set_cons_zero, List.set_cons_succ]
            refine wpAnyT_take (i := 8) (oi := _) (v := .pointer (some ⟨g2, 0, none⟩)) rfl (by kernel_rfl) (by kernel_rfl) (by kernel_rfl) (by kernel_rfl) rfl (by kernel_rfl) (fun _ _ _ h => h) (Or.inl ⟨by rfl, ?_⟩) (by assumption) ?_
            · intro w' hS'
              go_simp
            simp only [List.getElem_toArray, List.getElem_cons_zero, List.getElem_cons_succ, Act.put, List.setIfInBounds_toArray, List.set_cons_zero, List.set_cons_succ]
            refine wpAnyT_take (i := 9) (oi := _) (v := .int .i64 (mxW pX xs a j)) rfl (by kernel_rfl) (by kernel_rfl) (by kernel_rfl) (by kernel_rfl) rfl (by kernel_rfl) (fun _ _ _ h => h) (Or.inl ⟨by rfl, ?_⟩) (by assumption) ?_
            · intro w' hS'
              have c := hS'.cell (b := g2) (o := 0) bb0 (fun a ha => by have h9 := (lA' a ha).2; have h8 := (lA' a ha).1; omega) (fun a ha => by have h9 := (lB' a ha).2; have h8 := (lB' a ha).1; omega)
              go_simp
            simp only [List.getElem_toArray, List.getElem_cons_zero, List.getElem_cons_succ, Act.put, List.setIfInBounds_toArray, List.set_cons_zero, List.set_cons_succ]
            refine two_pairs _ _ _ _ _ 4 5 10 11 12 76 77 82 83 84 75 81 73 79 7 (.pointer (some ⟨w.heap.size + 1, 0, none⟩)) (.pointer (some ⟨w.heap.size + 1, 0, none⟩)) rfl rfl rfl rfl rfl rfl rfl rfl rfl rfl rfl rfl rfl rfl rfl rfl rfl rfl
              (fun a' w' K' E he hk => by
                rw [if_pos (by rfl)]
                unfold Oper.wp execOp
                have he2 : a'.tmps[7]?.getD undef = .pointer (some ⟨w.heap.size + 1, 0, none⟩) := by simpa [Act.eval] using he
                go_simp
                exact hk)
              (by decide) (by decide) (by simp) (by simp)
              (by kernel_rfl) (by kernel_rfl) (by kernel_rfl) (by kernel_rfl) (by kernel_rfl) (by kernel_rfl) (by kernel_rfl) (by kernel_rfl) (by kernel_rfl) (by kernel_rfl) (w.heap.size + 2) k k ca cb A B _ _ L0 L1 rfl rfl rfl rfl rfl oA.drew oB.drew jAB (by omega) (by omega) (by rw [hs_drew]; omega) (fun _ h => h) ?_
            intro A' B' ca' cb' u1_ u3_ wp0 oA oB jAB fr1 fr3 hE
            simp only [Act.put, List.setIfInBounds_toArray, List.set_cons_zero, List.set_cons_succ]
            clear hHeld KE' G1' G2' e0 e1 e2 e3 aa0 aa1 aa2 bb0 bb1 bb2
            have lC9 := own_blk oC
            have lD9 := own_blk oD
            have z9 := hE.size
            replace oC := hE.own (oC.drew) (jAC) (jBC)
            replace oD := hE.own (oD.drew) (jAD) (jBD)
            replace jAC := (djB.fr (jAC) fr1 rfl (fun b hb => (lC9 b hb).2))
            replace jAD := (djB.fr (jAD) fr1 rfl (fun b hb => (lD9 b hb).2))
            replace jBC := (djB.fr (jBC) fr3 rfl (fun b hb => (lC9 b hb).2))
            replace jBD := (djB.fr (jBD) fr3 rfl (fun b hb => (lD9 b hb).2))
            replace KO := hE.blk KO.drew (fun a ha => by have h9 := (lA' a ha).2; have h8 := (lA' a ha).1; omega) (fun a ha => by have h9 := (lB' a ha).2; have h8 := (lB' a ha).1; omega)
            replace KE := hE.blk KE.drew (fun a ha => by have h9 := (lA' a ha).2; have h8 := (lA' a ha).1; omega) (fun a ha => by have h9 := (lB' a ha).2; have h8 := (lB' a ha).1; omega)
            replace G1 := hE.blk G1.drew (fun a ha => by have h9 := (lA' a ha).2; have h8 := (lA' a ha).1; omega) (fun a ha => by have h9 := (lB' a ha).2; have h8 := (lB' a ha).1; omega)
            replace G2 := hE.blk G2.drew (fun a ha => by have h9 := (lA' a ha).2; have h8 := (lA' a ha).1; omega) (fun a ha => by have h9 := (lB' a ha).2; have h8 := (lB' a ha).1; omega)
            replace hb : Below w.heap.size w wp0 := hb.drew.trans (hE.below (by rw [hs_drew]; omega) (fun a ha => by have h8 := (lA' a ha).1; omega) (fun a ha => by have h8 := (lB' a ha).1; omega))
            clear hE fr1 fr3 lC9 lD9
            obtain ⟨e0, e1, e2, e3, f0, f1, f2, f3⟩ := blk4_at KE
            go_wp2_with fail
            clear e0 e1 e2 e3 f0 f1 f2 f3
            replace KO := (KO.far (p := ⟨w.heap.size + 1, 0, none⟩) (by simp only; omega) (.slice A' (k + 1) ca')).far (p := ⟨w.heap.size + 1, 1, none⟩) (by simp only; omega) (.slice B' (k + 1) cb')
            replace KE := (KE.set_ 0 (.slice A' (k + 1) ca')).set_ 1 (.slice B' (k + 1) cb')
            replace G1 := (G1.far (p := ⟨w.heap.size + 1, 0, none⟩) (by simp only; omega) (.slice A' (k + 1) ca')).far (p := ⟨w.heap.size + 1, 1, none⟩) (by simp only; omega) (.slice B' (k + 1) cb')
            replace G2 := (G2.far (p := ⟨w.heap.size + 1, 0, none⟩) (by simp only; omega) (.slice A' (k + 1) ca')).far (p := ⟨w.heap.size + 1, 1, none⟩) (by simp only; omega) (.slice B' (k + 1) cb')
            replace hb := (hb.setCell (p := ⟨w.heap.size + 1, 0, none⟩) (by simp only; omega) (.slice A' (k + 1) ca')).setCell (p := ⟨w.heap.size + 1, 1, none⟩) (by simp only; omega) (.slice B' (k + 1) cb')
            replace oA := ownsRow_setCell_below (a := ⟨w.heap.size + 1, 1, none⟩) (ownsRow_setCell_below (a := ⟨w.heap.size + 1, 0, none⟩) oA (by simp only; omega) (.slice A' (k + 1) ca')) (by simp only; omega) (.slice B' (k + 1) cb')
            replace oB := ownsRow_setCell_below (a := ⟨w.heap.size + 1, 1, none⟩) (ownsRow_setCell_below (a := ⟨w.heap.size + 1, 0, none⟩) oB (by simp only; omega) (.slice A' (k + 1) ca')) (by simp only; omega) (.slice B' (k + 1) cb')
            replace oC := ownsRow_setCell_below (a := ⟨w.heap.size + 1, 1, none⟩) (ownsRow_setCell_below (a := ⟨w.heap.size + 1, 0, none⟩) oC (by simp only; omega) (.slice A' (k + 1) ca')) (by simp only; omega) (.slice B' (k + 1) cb')
            replace oD := ownsRow_setCell_below (a := ⟨w.heap.size + 1, 1, none⟩) (ownsRow_setCell_below (a := ⟨w.heap.size + 1, 0, none⟩) oD (by simp only; omega) (.slice A' (k + 1) ca')) (by simp only; omega) (.slice B' (k + 1) cb')
            simp only [List.setIfInBounds_toArray, List.set_cons_zero, List.set_cons_succ] at KE
            have zw0 : wi.heap.size ≤ ((wp0.setCell ⟨w.heap.size + 1, 0, none⟩ (.slice A' (k + 1) ca')).setCell ⟨w.heap.size + 1, 1, none⟩ (.slice B' (k + 1) cb')).heap.size := by simp [World.setCell]; simp at z9; omega
            generalize (wp0.setCell ⟨w.heap.size + 1, 0, none⟩ (.slice A' (k + 1) ca')).setCell ⟨w.heap.size + 1, 1, none⟩ (.slice B' (k + 1) cb') = wq0 at *
            clear z9
            have G1' := G1.drew
            have G2' := G2.drew
            have KE' := KE.drew
            obtain ⟨e0, e1, e2, e3, _⟩ := blk4_at KE'
            have aa0 := G1'.cell 0
            have aa1 := G1'.cell 1
            have aa2 := G1'.cell 2
            simp only [List.getElem?_toArray, List.getElem?_cons_succ, List.getElem?_cons_zero] at aa0 aa1 aa2
            have bb0 := G2'.cell 0
            have bb1 := G2'.cell 1
            have bb2 := G2'.cell 2
            simp only [List.getElem?_toArray, List.getElem?_cons_succ, List.getElem?_cons_zero] at bb0 bb1 bb2
            refine wp_region_T (S := fun w' => Ev2 wq0.drew w' C D) (D := #[true, true, true, true, true, true, true, true, true, true, true, true, true, false, false, false]) (is := [13, 14, 15]) (l := [_, _, _]) (n := 13) (by kernel_rfl) (by rfl) (by kernel_rfl) (by rfl) (Ev2.refl _ _ _) (fun hHeld => ?_)
            refine wpAnyT_take (i := 0) (oi := _) (v := .pointer (some ⟨w.heap.size + 1, 2, none⟩)) rfl (by kernel_rfl) (by kernel_rfl) (by kernel_rfl) (by kernel_rfl) rfl (by kernel_rfl) (fun _ _ _ h => h) (Or.inl ⟨by rfl, ?_⟩) (by assumption) ?_
            · intro w' hS'
              go_simp
            simp only [List.getElem_toArray, List.getElem_cons_zero, List.getElem_cons_succ, Act.put, List.setIfInBounds_toArray, List.set_cons_zero, List.set_cons_succ]
            refine wpAnyT_take (i := 1) (oi := _) (v := .slice C k cc) rfl (by kernel_rfl) (by kernel_rfl) (by kernel_rfl) (by kernel_rfl) rfl (by kernel_rfl) (fun _ _ _ h => h) (Or.inl ⟨by rfl, ?_⟩) (by assumption) ?_
            · intro w' hS'
              have c := hS'.cell (b := w.heap.size + 1) (o := 2) e2 (fun a ha => by have h9 := (lC' a ha).2; have h8 := (lC' a ha).1; omega) (fun a ha => by have h9 := (lD' a ha).2; have h8 := (lD' a ha).1; omega)
              go_simp
            simp only [List.getElem_toArray, List.getElem_cons_zero, List.getElem_cons_succ, Act.put, List.setIfInBounds_toArray, List.set_cons_zero, List.set_cons_succ]
            refine wpAnyT_take (i := 2) (oi := _) (v := .pointer (some ⟨g1, 1, none⟩)) rfl (by kernel_rfl) (by kernel_rfl) (by kernel_rfl) (by kernel_rfl) rfl (by kernel_rfl) (fun _ _ _ h => h) (Or.inl ⟨by rfl, ?_⟩) (by assumption) ?_
            · intro w' hS'
              go_simp
            simp only [List.getElem_toArray, List.getElem_cons_zero, List.getElem_cons_succ, Act.put, List.setIfInBounds_toArray, List.set_cons_zero, List.set_cons_succ]
            refine wpAnyT_take (i := 3) (oi := _) (v := .int .i64 (mnW pY xs a j)) rfl (by kernel_rfl) (by kernel_rfl) (by kernel_rfl) (by kernel_rfl) rfl (by kernel_rfl) (fun _ _ _ h => h) (Or.inl ⟨by rfl, ?_⟩) (by assumption) ?_
            · intro w' hS'
              have c := hS'.cell (b := g1) (o := 1) aa1 (fun a ha => by have h9 := (lC' a ha).2; have h8 := (lC' a ha).1; omega) (fun a ha => by have h9 := (lD' a ha).2; have h8 := (lD' a ha).1; omega)
              go_simp
            simp only [List.getElem_toArray, List.getElem_cons_zero, List.getElem_cons_succ, Act.put, List.setIfInBounds_toArray, List.set_cons_zero, List.set_cons_succ]
            refine wpAnyT_take (i := 6) (oi := _) (v := .pointer (some ⟨w.heap.size + 1, 3, none⟩)) rfl (by kernel_rfl) (by kernel_rfl) (by kernel_rfl) (by kernel_rfl) rfl (by kernel_rfl) (fun _ _ _ h => h) (Or.inl ⟨by rfl, ?_⟩) (by assumption) ?_
            · intro w' hS'
              go_simp
            simp only [List.getElem_toArray, List.getElem_cons_zero, List.getElem_cons_succ, Act.put, List.setIfInBounds_toArray, List.set_cons_zero, List.set_cons_succ]
            refine wpAnyT_take (i := 7) (oi := _) (v := .slice D k cd) rfl (by kernel_rfl) (by kernel_rfl) (by kernel_rfl) (by kernel_rfl) rfl (by kernel_rfl) (fun _ _ _ h => h) (Or.inl ⟨by rfl, ?_⟩) (by assumption) ?_
            · intro w' hS'
              have c := hS'.cell (b := w.heap.size + 1) (o := 3) e3 (fun a ha => by have h9 := (lC' a ha).2; have h8 := (lC' a ha).1; omega) (fun a ha => by have h9 := (lD' a ha).2; have h8 := (lD' a ha).1; omega)
              go_simp
            simp only [List.getElem_toArray, List.getElem_cons_zero, List.getElem_cons_succ, Act.put, List.setIfInBounds_toArray, List.set_cons_zero, List.set_cons_succ]
            refine wpAnyT_take (i := 8) (oi := _) (v := .pointer (some ⟨g2, 1, none⟩)) rfl (by kernel_rfl) (by kernel_rfl) (by kernel_rfl) (by kernel_rfl) rfl (by kernel_rfl) (fun _ _ _ h => h) (Or.inl ⟨by rfl, ?_⟩) (by assumption) ?_
            · intro w' hS'
              go_simp
            simp only [List.getElem_toArray, List.getElem_cons_zero, List.getElem_cons_succ, Act.put, List.setIfInBounds_toArray, List.set_cons_zero, List.set_cons_succ]
            refine wpAnyT_take (i := 9) (oi := _) (v := .int .i64 (mxW pY xs a j)) rfl (by kernel_rfl) (by kernel_rfl) (by kernel_rfl) (by kernel_rfl) rfl (by kernel_rfl) (fun _ _ _ h => h) (Or.inl ⟨by rfl, ?_⟩) (by assumption) ?_
            · intro w' hS'
              have c := hS'.cell (b := g2) (o := 1) bb1 (fun a ha => by have h9 := (lC' a ha).2; have h8 := (lC' a ha).1; omega) (fun a ha => by have h9 := (lD' a ha).2; have h8 := (lD' a ha).1; omega)
              go_simp
            simp only [List.getElem_toArray, List.getElem_cons_zero, List.getElem_cons_succ, Act.put, List.setIfInBounds_toArray, List.set_cons_zero, List.set_cons_succ]
            refine two_pairs _ _ _ _ _ 4 5 10 11 12 90 91 96 97 98 89 95 87 93 7 (.pointer (some ⟨w.heap.size + 1, 0, none⟩)) (.pointer (some ⟨w.heap.size + 1, 2, none⟩)) rfl rfl rfl rfl rfl rfl rfl rfl rfl rfl rfl rfl rfl rfl rfl rfl rfl rfl
              (fun a' w' K' E he hk => by
                rw [if_pos (by rfl)]
                unfold Oper.wp execOp
                have he2 : a'.tmps[7]?.getD undef = .pointer (some ⟨w.heap.size + 1, 0, none⟩) := by simpa [Act.eval] using he
                go_simp
                exact hk)
              (by decide) (by decide) (by simp) (by simp)
              (by kernel_rfl) (by kernel_rfl) (by kernel_rfl) (by kernel_rfl) (by kernel_rfl) (by kernel_rfl) (by kernel_rfl) (by kernel_rfl) (by kernel_rfl) (by kernel_rfl) (w.heap.size + 2) k k cc cd C D _ _ L2 L3 rfl rfl rfl rfl rfl oC.drew oD.drew jCD (by omega) (by omega) (by rw [hs_drew]; omega) (fun _ h => h) ?_
            intro C' D' cc' cd' u1_ u3_ wp1 oC oD jCD fr1 fr3 hE
            simp only [Act.put, List.setIfInBounds_toArray, List.set_cons_zero, List.set_cons_succ]
            clear hHeld KE' G1' G2' e0 e1 e2 e3 aa0 aa1 aa2 bb0 bb1 bb2
            have lA9 := own_blk oA
            have lB9 := own_blk oB
            have z9 := hE.size
            replace oA := hE.own (oA.drew) ((jAC).sym) ((jAD).sym)
            replace oB := hE.own (oB.drew) ((jBC).sym) ((jBD).sym)
            replace jAC := (djB.fr ((jAC).sym) fr1 rfl (fun b hb => (lA9 b hb).2)).sym
            replace jBC := (djB.fr ((jBC).sym) fr1 rfl (fun b hb => (lB9 b hb).2)).sym
            replace jAD := (djB.fr ((jAD).sym) fr3 rfl (fun b hb => (lA9 b hb).2)).sym
            replace jBD := (djB.fr ((jBD).sym) fr3 rfl (fun b hb => (lB9 b hb).2)).sym
            replace KO := hE.blk KO.drew (fun a ha => by have h9 := (lC' a ha).2; have h8 := (lC' a ha).1; omega) (fun a ha => by have h9 := (lD' a ha).2; have h8 := (lD' a ha).1; omega)
            replace KE := hE.blk KE.drew (fun a ha => by have h9 := (lC' a ha).2; have h8 := (lC' a ha).1; omega) (fun a ha => by have h9 := (lD' a ha).2; have h8 := (lD' a ha).1; omega)
            replace G1 := hE.blk G1.drew (fun a ha => by have h9 := (lC' a ha).2; have h8 := (lC' a ha).1; omega) (fun a ha => by have h9 := (lD' a ha).2; have h8 := (lD' a ha).1; omega)
            replace G2 := hE.blk G2.drew (fun a ha => by have h9 := (lC' a ha).2; have h8 := (lC' a ha).1; omega) (fun a ha => by have h9 := (lD' a ha).2; have h8 := (lD' a ha).1; omega)
            replace hb : Below w.heap.size w wp1 := hb.drew.trans (hE.below (by rw [hs_drew]; omega) (fun a ha => by have h8 := (lC' a ha).1; omega) (fun a ha => by have h8 := (lD' a ha).1; omega))
            clear hE fr1 fr3 lA9 lB9
            obtain ⟨e0, e1, e2, e3, f0, f1, f2, f3⟩ := blk4_at KE
            go_wp2_with fail
            clear e0 e1 e2 e3 f0 f1 f2 f3
            replace KO := (KO.far (p := ⟨w.heap.size + 1, 2, none⟩) (by simp only; omega) (.slice C' (k + 1) cc')).far (p := ⟨w.heap.size + 1, 3, none⟩) (by simp only; omega) (.slice D' (k + 1) cd')
            replace KE := (KE.set_ 2 (.slice C' (k + 1) cc')).set_ 3 (.slice D' (k + 1) cd')
            replace G1 := (G1.far (p := ⟨w.heap.size + 1, 2, none⟩) (by simp only; omega) (.slice C' (k + 1) cc')).far (p := ⟨w.heap.size + 1, 3, none⟩) (by simp only; omega) (.slice D' (k + 1) cd')
            replace G2 := (G2.far (p := ⟨w.heap.size + 1, 2, none⟩) (by simp only; omega) (.slice C' (k + 1) cc')).far (p := ⟨w.heap.size + 1, 3, none⟩) (by simp only; omega) (.slice D' (k + 1) cd')
            replace hb := (hb.setCell (p := ⟨w.heap.size + 1, 2, none⟩) (by simp only; omega) (.slice C' (k + 1) cc')).setCell (p := ⟨w.heap.size + 1, 3, none⟩) (by simp only; omega) (.slice D' (k + 1) cd')
            replace oA := ownsRow_setCell_below (a := ⟨w.heap.size + 1, 3, none⟩) (ownsRow_setCell_below (a := ⟨w.heap.size + 1, 2, none⟩) oA (by simp only; omega) (.slice C' (k + 1) cc')) (by simp only; omega) (.slice D' (k + 1) cd')
            replace oB := ownsRow_setCell_below (a := ⟨w.heap.size + 1, 3, none⟩) (ownsRow_setCell_below (a := ⟨w.heap.size + 1, 2, none⟩) oB (by simp only; omega) (.slice C' (k + 1) cc')) (by simp only; omega) (.slice D' (k + 1) cd')
            replace oC := ownsRow_setCell_below (a := ⟨w.heap.size + 1, 3, none⟩) (ownsRow_setCell_below (a := ⟨w.heap.size + 1, 2, none⟩) oC (by simp only; omega) (.slice C' (k + 1) cc')) (by simp only; omega) (.slice D' (k + 1) cd')
            replace oD := ownsRow_setCell_below (a := ⟨w.heap.size + 1, 3, none⟩) (ownsRow_setCell_below (a := ⟨w.heap.size + 1, 2, none⟩) oD (by simp only; omega) (.slice C' (k + 1) cc')) (by simp only; omega) (.slice D' (k + 1) cd')
            simp only [List.setIfInBounds_toArray, List.set_cons_zero, List.set_cons_succ] at KE
            have zw1 : wi.heap.size ≤ ((wp1.setCell ⟨w.heap.size + 1, 2, none⟩ (.slice C' (k + 1) cc')).setCell ⟨w.heap.size + 1, 3, none⟩ (.slice D' (k + 1) cd')).heap.size := by simp [World.setCell]; simp at z9; omega
            generalize (wp1.setCell ⟨w.heap.size + 1, 2, none⟩ (.slice C' (k + 1) cc')).setCell ⟨w.heap.size + 1, 3, none⟩ (.slice D' (k + 1) cd') = wq1 at *
            clear z9
            go_wp2
            exact ⟨⟨k + 1, ca', cb', cc', cd', A', B', C', D', by omega, by go_num, hb, KO, KE, by show R4 _ _ _ _ _ _ _ _ _ _ _ _ _ _ _; rw [HF.out.1, HF.out.2.1, HF.out.2.2.1, HF.out.2.2.2]; exact ⟨oA, oB, oC, oD, jAB, jAC, jAD, jBC, jBD, jCD⟩⟩, by simp [intOf]; omega⟩
      · have G2 : Blk ((wo.alloc (.cells #[.int .i64 x, .int .i64 y, .int .i64 d] 79)).alloc (.cells #[.int .i64 x, .int .i64 y, .int .i64 d] 79)).drew wo.heap.size 79 #[.int .i64 x, .int .i64 y, .int .i64 d] := ((Blk.new _ _ _).alloc _).drew
        have G1 : Blk ((wo.alloc (.cells #[.int .i64 x, .int .i64 y, .int .i64 d] 79)).alloc (.cells #[.int .i64 x, .int .i64 y, .int .i64 d] 79)).drew (wo.heap.size + 1) 79 #[.int .i64 x, .int .i64 y, .int .i64 d] := by have h := Blk.new (wo.alloc (.cells #[.int .i64 x, .int .i64 y, .int .i64 d] 79)) 79 #[.int .i64 x, .int .i64 y, .int .i64 d]; rw [World.size_alloc] at h; exact h.drew
        have hW : Below wo.heap.size wo ((wo.alloc (.cells #[.int .i64 x, .int .i64 y, .int .i64 d] 79)).alloc (.cells #[.int .i64 x, .int .i64 y, .int .i64 d] 79)).drew := (by repeat (first | exact Below.refl _ _ | assumption | refine Below.drew ?_ | refine below_drewN ?_ _ | refine Below.alloc ?_ (by first | omega | (simp <;> omega)) _ | refine Below.setCell ?_ (by first | omega | (simp <;> omega)) _))
        go_split_ands
        clear q0 q1 q2
        generalize ((wo.alloc (.cells #[.int .i64 x, .int .i64 y, .int .i64 d] 79)).alloc (.cells #[.int .i64 x, .int .i64 y, .int .i64 d] 79)).drew = wv at *
        have hg : wo.heap.size + 1 ≠ wo.heap.size := by omega
        have z2 : wo.heap.size ≤ wo.heap.size + 1 := by omega
        have z3 : wo.heap.size ≤ wo.heap.size := Nat.le_refl _
        have j1 : (a : Int) ≤ (t : Int) := by have := HT.out; omega
        have j2 : (t : Int) ≤ (c : Int) := by have := HR.out.cap; omega
        have j3 : ¬ c = a := by have := HR.out.cap; omega
        have q72 : q ≤ 72 := by have := HT.out; omega
        have e1 : t - a = q := by have := HT.out; omega
        go_wp2_with fail
        clear e1 j3 j1 j2
        obtain ⟨g1, hg1⟩ : ∃ g, g = wo.heap.size + 1 := ⟨_, rfl⟩
        obtain ⟨g2, hg2⟩ : ∃ g, g = wo.heap.size := ⟨_, rfl⟩
        rw [← hg1] at G1 ⊢
        rw [← hg2] at G2 ⊢
        have hne : g1 ≠ g2 := by omega
        have hge1 : wo.heap.size ≤ g1 := by omega
        have hge2 : wo.heap.size ≤ g2 := by omega
        clear hg1 hg2 hg z2 z3
        have HX := HX0
        go_loopw [43] (fun i wz => ∃ j : Nat, j ≤ q ∧ i = .int .i64 j ∧ Below wo.heap.size wo wz ∧ Blk wz g1 79 #[.int .i64 (mnW pX xs a (max j 1)), .int .i64 (mnW pY xs a (max j 1)), .int .i64 d] ∧ Blk wz g2 79 #[.int .i64 (mxW pX xs a (max j 1)), .int .i64 (mxW pY xs a (max j 1)), .int .i64 d]) (fun i _ => q - (intOf i).toNat)
        case atStart => exact ⟨0, by omega, rfl, hW, by rw [show max 0 1 = 1 by omega, mnW_one hx.out HX.out.1.2, mnW_one hx.out HX.out.2.2]; exact G1, by rw [show max 0 1 = 1 by omega, mxW_one hx.out HX.out.1.1, mxW_one hx.out HX.out.2.1]; exact G2⟩
        case round =>
          clear G1 G2 hW
          obtain ⟨j, hj, rfl, hbz, G1, G2⟩ := hrel
          by_cases hjq : j < q
          · have fmark := trivial
            obtain ⟨b', off', x', y', d', he, hbl', hx', p0, p1, p2⟩ := (HS.out.below hbz).at3 hjq
            cases he
            have hx2 := Lib.hid (sub_at hx'.out)
            obtain ⟨⟨fx0, fx1⟩, ⟨fy0, fy1⟩, _⟩ := featB_iff.1 (show featB x' y' d' = true from all_at (p := featOk) (x := (x', y', d')) (Bool.and_eq_true_iff.1 Hok.out).1 hx2.out)
            have V := Lib.hid (And.intro (mn_next (g := pX) hx2.out fx1) (And.intro (mn_next (g := pY) hx2.out fy1) (And.intro (mx_next (g := pX) hx2.out fx0) (mx_next (g := pY) hx2.out fy0))))
            obtain ⟨m0, hm0⟩ : ∃ m, mnW pX xs a (max j 1) = m := ⟨_, rfl⟩
            obtain ⟨m1, hm1⟩ : ∃ m, mnW pY xs a (max j 1) = m := ⟨_, rfl⟩
            obtain ⟨m2, hm2⟩ : ∃ m, mxW pX xs a (max j 1) = m := ⟨_, rfl⟩
            obtain ⟨m3, hm3⟩ : ∃ m, mxW pY xs a (max j 1) = m := ⟨_, rfl⟩
            rw [hm0, hm1] at G1
            rw [hm2, hm3] at G2
            rw [hm0, hm1, hm2, hm3] at V
            clear hm0 hm1 hm2 hm3 fx0 fx1 fy0 fy1 hx'
            have zz := hbz.size
            replace hbl' := Nat.lt_of_lt_of_le hbl' zz
            have y1 : (j : Int) < (q : Int) := by omega
            have y2 : (0 : Int) ≤ (j : Int) := by omega
            have zg1 := G1.lt
            have zg2 := G2.lt
            go_wp2_with fail
            clear p0 p1 p2
            have G3 := Blk.new wr 79 #[.int .i64 x', .int .i64 y', .int .i64 d']
            have hbw : Below wr.heap.size wr (wr.alloc (.cells #[.int .i64 x', .int .i64 y', .int .i64 d'] 79)) := (Below.refl _ _).alloc (Nat.le_refl _) _
            replace G1 := G1.on hbw
            replace G2 := G2.on hbw
            replace hbz : Below wo.heap.size wo (wr.alloc (.cells #[.int .i64 x', .int .i64 y', .int .i64 d'] 79)) := below_app hbz hbw zz
            generalize wr.alloc (.cells #[.int .i64 x', .int .i64 y', .int .i64 d'] 79) = wy at *
            obtain ⟨g3, hg3⟩ : ∃ g, g = wr.heap.size := ⟨_, rfl⟩
            rw [← hg3] at G3 ⊢
            have n1 : ¬ g1 = g2 := hne
            have n2 : ¬ g1 = g3 := by omega
            have n3 : ¬ g2 = g3 := by omega
            have HG3 := Lib.hid hg3
            clear hg3
            have aa0 := G1.cell 0
            have aa1 := G1.cell 1
            have aa2 := G1.cell 2
            simp only [List.getElem?_toArray, List.getElem?_cons_succ, List.getElem?_cons_zero] at aa0 aa1 aa2
            have bb0 := G2.cell 0
            have bb1 := G2.cell 1
            have bb2 := G2.cell 2
            simp only [List.getElem?_toArray, List.getElem?_cons_succ, List.getElem?_cons_zero] at bb0 bb1 bb2
            have cc0 := G3.cell 0
            have cc1 := G3.cell 1
            have cc2 := G3.cell 2
            simp only [List.getElem?_toArray, List.getElem?_cons_succ, List.getElem?_cons_zero] at cc0 cc1 cc2
            have fa0 := G1.frozen 0
            have fa1 := G1.frozen 1
            have fa2 := G1.frozen 2
            have fb0 := G2.frozen 0
            have fb1 := G2.frozen 1
            have fb2 := G2.frozen 2
            apply wp_end
            case h =>
              go_region
              exact atNormal_mk _ _
            obtain ⟨r0, hr0⟩ : ∃ r, Hid (r = if x' < m0 then x' else m0) := ⟨_, rfl⟩
            obtain ⟨r2, hr2⟩ : ∃ r, Hid (r = if m2 < x' then x' else m2) := ⟨_, rfl⟩
            rw [← hr0.out, ← hr2.out]
            clear aa0 aa1 aa2 bb0 bb1 bb2 cc0 cc1 cc2 fa0 fa1 fa2 fb0 fb1 fb2
            have zg1' := G1.lt
            have zg2' := G2.lt
            replace hbz : Below wo.heap.size wo (((wy.setCell ⟨g1, 0, none⟩ (.int .i64 r0)).setCell ⟨g2, 0, none⟩ (.int .i64 r2)).drew) := ((hbz.setCell (p := ⟨g1, 0, none⟩) hge1 _).setCell (p := ⟨g2, 0, none⟩) hge2 _).drew
            replace G1 := ((G1.set_ 0 (.int .i64 r0)).far (p := ⟨g2, 0, none⟩) n1 (.int .i64 r2)).drew
            replace G2 := ((G2.far (p := ⟨g1, 0, none⟩) (fun e => n1 e.symm) (.int .i64 r0)).set_ 0 (.int .i64 r2)).drew
            replace G3 := ((G3.far (p := ⟨g1, 0, none⟩) (fun e => n2 e.symm) (.int .i64 r0)).far (p := ⟨g2, 0, none⟩) (fun e => n3 e.symm) (.int .i64 r2)).drew
            simp only [List.setIfInBounds_toArray, List.set_cons_zero, List.set_cons_succ] at G1 G2
            generalize (((wy.setCell ⟨g1, 0, none⟩ (.int .i64 r0)).setCell ⟨g2, 0, none⟩ (.int .i64 r2)).drew) = wx at *
            go_wp2_with fail
            have aa0 := G1.cell 0
            have aa1 := G1.cell 1
            have aa2 := G1.cell 2
            simp only [List.getElem?_toArray, List.getElem?_cons_succ, List.getElem?_cons_zero] at aa0 aa1 aa2
            have bb0 := G2.cell 0
            have bb1 := G2.cell 1
            have bb2 := G2.cell 2
            simp only [List.getElem?_toArray, List.getElem?_cons_succ, List.getElem?_cons_zero] at bb0 bb1 bb2
            have cc0 := G3.cell 0
            have cc1 := G3.cell 1
            have cc2 := G3.cell 2
            simp only [List.getElem?_toArray, List.getElem?_cons_succ, List.getElem?_cons_zero] at cc0 cc1 cc2
            have fa0 := G1.frozen 0
            have fa1 := G1.frozen 1
            have fa2 := G1.frozen 2
            have fb0 := G2.frozen 0
            have fb1 := G2.frozen 1
            have fb2 := G2.frozen 2
            apply wp_end
            case h =>
              go_region
              exact atNormal_mk _ _
            obtain ⟨r1, hr1⟩ : ∃ r, Hid (r = if y' < m1 then y' else m1) := ⟨_, rfl⟩
            obtain ⟨r3, hr3⟩ : ∃ r, Hid (r = if m3 < y' then y' else m3) := ⟨_, rfl⟩
            rw [← hr1.out, ← hr3.out]
            clear aa0 aa1 aa2 bb0 bb1 bb2 cc0 cc1 cc2 fa0 fa1 fa2 fb0 fb1 fb2
            replace hbz : Below wo.heap.size wo (((wx.setCell ⟨g1, 1, none⟩ (.int .i64 r1)).setCell ⟨g2, 1, none⟩ (.int .i64 r3)).drew) := ((hbz.setCell (p := ⟨g1, 1, none⟩) hge1 _).setCell (p := ⟨g2, 1, none⟩) hge2 _).drew
            replace G1 := ((G1.set_ 1 (.int .i64 r1)).far (p := ⟨g2, 1, none⟩) n1 (.int .i64 r3)).drew
            replace G2 := ((G2.far (p := ⟨g1, 1, none⟩) (fun e => n1 e.symm) (.int .i64 r1)).set_ 1 (.int .i64 r3)).drew
            simp only [List.setIfInBounds_toArray, List.set_cons_zero, List.set_cons_succ] at G1 G2
            clear G3 hbw
            generalize (((wx.setCell ⟨g1, 1, none⟩ (.int .i64 r1)).setCell ⟨g2, 1, none⟩ (.int .i64 r3)).drew) = wu at *
            go_wp2
            obtain ⟨V1, V2, V3, V4⟩ := V.out
            replace V1 := V1.trans hr0.out.symm
            replace V2 := V2.trans hr1.out.symm
            replace V3 := V3.trans hr2.out.symm
            replace V4 := V4.trans hr3.out.symm
            exact ⟨⟨j + 1, by omega, by go_num, hbz, by rw [V1, V2]; exact G1, by rw [V3, V4]; exact G2⟩, by simp [intOf]; omega⟩
          · have hjq2 : j = q := by omega
            have hq1 : max j 1 = q := by omega
            rw [hq1] at G1 G2
            subst hjq2
            clear hq1
            rename World => wi
            have zo1 := hge1
            go_wp2_with fail
            obtain ⟨KO, KE, hb⟩ := P.out
            obtain ⟨oA, oB, oC, oD, jAB, jAC, jAD, jBC, jBD, jCD⟩ := HR4.out
            have HF : Hid (mnL pX xs bd (k + 1) = mnL pX xs bd k ++ [mnW pX xs a j] ∧ mxL pX xs bd (k + 1) = mxL pX xs bd k ++ [mxW pX xs a j] ∧ mnL pY xs bd (k + 1) = mnL pY xs bd k ++ [mnW pY xs a j] ∧ mxL pY xs bd (k + 1) = mxL pY xs bd k ++ [mxW pY xs a j]) := by
              rw [HA.out, HQ.out]
              exact ⟨by rw [mnL_step, hl.out], by rw [mxL_step, hl.out], by rw [mnL_step, hl.out], by rw [mxL_step, hl.out]⟩
            generalize mnL pX xs bd k = L0 at *
            generalize mxL pX xs bd k = L1 at *
            generalize mnL pY xs bd k = L2 at *
            generalize mxL pY xs bd k = L3 at *
            have zKE := KE.lt
            have zwi := hbz.size
            have lA' := own_blk oA
            have lB' := own_blk oB
            have lC' := own_blk oC
            have lD' := own_blk oD
            replace KO := KO.on hbz
            replace KE := KE.on hbz
            replace oA := own_below oA hbz
            replace oB := own_below oB hbz
            replace oC := own_below oC hbz
            replace oD := own_below oD hbz
            replace hb := below_on hbz hb
            clear P HR4 HX HX0 HS hx i2 i3 hjq hj
            have G1' := G1.drew
            have G2' := G2.drew
            have KE' := KE.drew
            obtain ⟨e0, e1, e2, e3, _⟩ := blk4_at KE'
            have aa0 := G1'.cell 0
            have aa1 := G1'.cell 1
            have aa2 := G1'.cell 2
            simp only [List.getElem?_toArray, List.getElem?_cons_succ, List.getElem?_cons_zero] at aa0 aa1 aa2
            have bb0 := G2'.cell 0
            have bb1 := G2'.cell 1
            have bb2 := G2'.cell 2
            simp only [List.getElem?_toArray, List.getElem?_cons_succ, List.getElem?_cons_zero] at bb0 bb1 bb2
            refine wp_region_T (S := fun w' => Ev2 wi.drew w' A B) (D := #[true, true, true, true, true, true, true, true, true, true, true, true, true, false, false, false]) (is := [13, 14, 15]) (l := [_, _, _]) (n := 13) (by kernel_rfl) (by rfl) (by kernel_rfl) (by rfl) (Ev2.refl _ _ _) (fun hHeld => ?_)
            refine wpAnyT_take (i := 0) (oi := _) (v := .pointer (some ⟨w.heap.size + 1, 0, none⟩)) rfl (by kernel_rfl) (by kernel_rfl) (by kernel_rfl) (by kernel_rfl) rfl (by kernel_rfl) (fun _ _ _ h => h) (Or.inl ⟨by rfl, ?_⟩) (by assumption) ?_
            · intro w' hS'
              go_simp
            simp only [List.getElem_toArray, List.getElem_cons_zero, List.getElem_cons_succ, Act.put, List.setIfInBounds_toArray, List.set_cons_zero, List.set_cons_succ]
            refine wpAnyT_take (i := 1) (oi := _) (v := .slice A k ca) rfl (by kernel_rfl) (by kernel_rfl) (by kernel_rfl) (by kernel_rfl) rfl (by kernel_rfl) (fun _ _ _ h => h) (Or.inl ⟨by rfl, ?_⟩) (by assumption) ?_
            · intro w' hS'
              have c := hS'.cell (b := w.heap.size + 1) (o := 0) e0 (fun a ha => by have h9 := (lA' a ha).2; have h8 := (lA' a ha).1; omega) (fun a ha => by have h9 := (lB' a ha).2; have h8 := (lB' a ha).1; omega)
              go_simp
            simp only [List.getElem_toArray, List.getElem_cons_zero, List.getElem_cons_succ, Act.put, List.setIfInBounds_toArray, List.set_cons_zero, List.set_cons_succ]
            refine wpAnyT_take (i := 2) (oi := _) (v := .pointer (some ⟨g1, 0, none⟩)) rfl (by kernel_rfl) (by kernel_rfl) (by kernel_rfl) (by kernel_rfl) rfl (by kernel_rfl) (fun _ _ _ h => h) (Or.inl ⟨by rfl, ?_⟩) (by assumption) ?_
            · intro w' hS'
              go_simp
            simp only [List.getElem_toArray, List.getElem_cons_zero, List.getElem_cons_succ, Act.put, List.setIfInBounds_toArray, List.set_cons_zero, List.set_cons_succ]
            refine wpAnyT_take (i := 3) (oi := _) (v := .int .i64 (mnW pX xs a j)) rfl (by kernel_rfl) (by kernel_rfl) (by kernel_rfl) (by kernel_rfl) rfl (by kernel_rfl) (fun _ _ _ h => h) (Or.inl ⟨by rfl, ?_⟩) (by assumption) ?_
            · intro w' hS'
              have c := hS'.cell (b := g1) (o := 0) aa0 (fun a ha => by have h9 := (lA' a ha).2; have h8 := (lA' a ha).1; omega) (fun a ha => by have h9 := (lB' a ha).2; have h8 := (lB' a ha).1; omega)
              go_simp
            simp only [List.getElem_toArray, List.getElem_cons_zero, List.getElem_cons_succ, Act.put, List.setIfInBounds_toArray, List.set_cons_zero, List.set_cons_succ]
            refine wpAnyT_take (i := 6) (oi := _) (v := .pointer (some ⟨w.heap.size + 1, 1, none⟩)) rfl (by kernel_rfl) (by kernel_rfl) (by kernel_rfl) (by kernel_rfl) rfl (by kernel_rfl) (fun _ _ _ h => h) (Or.inl ⟨by rfl, ?_⟩) (by assumption) ?_
            · intro w' hS'
              go_simp
            simp only [List.getElem_toArray, List.getElem_cons_zero, List.getElem_cons_succ, Act.put, List.setIfInBounds_toArray, List.set_cons_zero, List.set_cons_succ]
            refine wpAnyT_take (i := 7) (oi := _) (v := .slice B k cb) rfl (by kernel_rfl) (by kernel_rfl) (by kernel_rfl) (by kernel_rfl) rfl (by kernel_rfl) (fun _ _ _ h => h) (Or.inl ⟨by rfl, ?_⟩) (by assumption) ?_
            · intro w' hS'
              have c := hS'.cell (b := w.heap.size + 1) (o := 1) e1 (fun a ha => by have h9 := (lA' a ha).2; have h8 := (lA' a ha).1; omega) (fun a ha => by have h9 := (lB' a ha).2; have h8 := (lB' a ha).1; omega)
              go_simp
            simp only [List.getElem_toArray, List.getElem_cons_zero, List.getElem_cons_succ, Act.put, List.setIfInBounds_toArray, List.set_cons_zero, List.set_cons_succ]
            refine wpAnyT_take (i := 8) (oi := _) (v := .pointer (some ⟨g2, 0, none⟩)) rfl (by kernel_rfl) (by kernel_rfl) (by kernel_rfl) (by kernel_rfl) rfl (by kernel_rfl) (fun _ _ _ h => h) (Or.inl ⟨by rfl, ?_⟩) (by assumption) ?_
            · intro w' hS'
              go_simp
            simp only [List.getElem_toArray, List.getElem_cons_zero, List.getElem_cons_succ, Act.put, List.setIfInBounds_toArray, List.set_cons_zero, List.set_cons_succ]
            refine wpAnyT_take (i := 9) (oi := _) (v := .int .i64 (mxW pX xs a j)) rfl (by kernel_rfl) (by kernel_rfl) (by kernel_rfl) (by kernel_rfl) rfl (by kernel_rfl) (fun _ _ _ h => h) (Or.inl ⟨by rfl, ?_⟩) (by assumption) ?_
            · intro w' hS'
              have c := hS'.cell (b := g2) (o := 0) bb0 (fun a ha => by have h9 := (lA' a ha).2; have h8 := (lA' a ha).1; omega) (fun a ha => by have h9 := (lB' a ha).2; have h8 := (lB' a ha).1; omega)
              go_simp
            simp only [List.getElem_toArray, List.getElem_cons_zero, List.getElem_cons_succ, Act.put, List.setIfInBounds_toArray, List.set_cons_zero, List.set_cons_succ]
            refine two_pairs _ _ _ _ _ 4 5 10 11 12 76 77 82 83 84 75 81 73 79 7 (.pointer (some ⟨w.heap.size + 1, 0, none⟩)) (.pointer (some ⟨w.heap.size + 1, 0, none⟩)) rfl rfl rfl rfl rfl rfl rfl rfl rfl rfl rfl rfl rfl rfl rfl rfl rfl rfl
              (fun a' w' K' E he hk => by
                rw [if_pos (by rfl)]
                unfold Oper.wp execOp
                have he2 : a'.tmps[7]?.getD undef = .pointer (some ⟨w.heap.size + 1, 0, none⟩) := by simpa [Act.eval] using he
                go_simp
                exact hk)
              (by decide) (by decide) (by simp) (by simp)
              (by kernel_rfl) (by kernel_rfl) (by kernel_rfl) (by kernel_rfl) (by kernel_rfl) (by kernel_rfl) (by kernel_rfl) (by kernel_rfl) (by kernel_rfl) (by kernel_rfl) (w.heap.size + 2) k k ca cb A B _ _ L0 L1 rfl rfl rfl rfl rfl oA.drew oB.drew jAB (by omega) (by omega) (by rw [hs_drew]; omega) (fun _ h => h) ?_
            intro A' B' ca' cb' u1_ u3_ wp0 oA oB jAB fr1 fr3 hE
            simp only [Act.put, List.setIfInBounds_toArray, List.set_cons_zero, List.set_cons_succ]
            clear hHeld KE' G1' G2' e0 e1 e2 e3 aa0 aa1 aa2 bb0 bb1 bb2
            have lC9 := own_blk oC
            have lD9 := own_blk oD
            have z9 := hE.size
            replace oC := hE.own (oC.drew) (jAC) (jBC)
            replace oD := hE.own (oD.drew) (jAD) (jBD)
            replace jAC := (djB.fr (jAC) fr1 rfl (fun b hb => (lC9 b hb).2))
            replace jAD := (djB.fr (jAD) fr1 rfl (fun b hb => (lD9 b hb).2))
            replace jBC := (djB.fr (jBC) fr3 rfl (fun b hb => (lC9 b hb).2))
            replace jBD := (djB.fr (jBD) fr3 rfl (fun b hb => (lD9 b hb).2))
            replace KO := hE.blk KO.drew (fun a ha => by have h9 := (lA' a ha).2; have h8 := (lA' a ha).1; omega) (fun a ha => by have h9 := (lB' a ha).2; have h8 := (lB' a ha).1; omega)
            replace KE := hE.blk KE.drew (fun a ha => by have h9 := (lA' a ha).2; have h8 := (lA' a ha).1; omega) (fun a ha => by have h9 := (lB' a ha).2; have h8 := (lB' a ha).1; omega)
            replace G1 := hE.blk G1.drew (fun a ha => by have h9 := (lA' a ha).2; have h8 := (lA' a ha).1; omega) (fun a ha => by have h9 := (lB' a ha).2; have h8 := (lB' a ha).1; omega)
            replace G2 := hE.blk G2.drew (fun a ha => by have h9 := (lA' a ha).2; have h8 := (lA' a ha).1; omega) (fun a ha => by have h9 := (lB' a ha).2; have h8 := (lB' a ha).1; omega)
            replace hb : Below w.heap.size w wp0 := hb.drew.trans (hE.below (by rw [hs_drew]; omega) (fun a ha => by have h8 := (lA' a ha).1; omega) (fun a ha => by have h8 := (lB' a ha).1; omega))
            clear hE fr1 fr3 lC9 lD9
            obtain ⟨e0, e1, e2, e3, f0, f1, f2, f3⟩ := blk4_at KE
            go_wp2_with fail
            clear e0 e1 e2 e3 f0 f1 f2 f3
            replace KO := (KO.far (p := ⟨w.heap.size + 1, 0, none⟩) (by simp only; omega) (.slice A' (k + 1) ca')).far (p := ⟨w.heap.size + 1, 1, none⟩) (by simp only; omega) (.slice B' (k + 1) cb')
            replace KE := (KE.set_ 0 (.slice A' (k + 1) ca')).set_ 1 (.slice B' (k + 1) cb')
            replace G1 := (G1.far (p := ⟨w.heap.size + 1, 0, none⟩) (by simp only; omega) (.slice A' (k + 1) ca')).far (p := ⟨w.heap.size + 1, 1, none⟩) (by simp only; omega) (.slice B' (k + 1) cb')
            replace G2 := (G2.far (p := ⟨w.heap.size + 1, 0, none⟩) (by simp only; omega) (.slice A' (k + 1) ca')).far (p := ⟨w.heap.size + 1, 1, none⟩) (by simp only; omega) (.slice B' (k + 1) cb')
            replace hb := (hb.setCell (p := ⟨w.heap.size + 1, 0, none⟩) (by simp only; omega) (.slice A' (k + 1) ca')).setCell (p := ⟨w.heap.size + 1, 1, none⟩) (by simp only; omega) (.slice B' (k + 1) cb')
            replace oA := ownsRow_setCell_below (a := ⟨w.heap.size + 1, 1, none⟩) (ownsRow_setCell_below (a := ⟨w.heap.size + 1, 0, none⟩) oA (by simp only; omega) (.slice A' (k + 1) ca')) (by simp only; omega) (.slice B' (k + 1) cb')
            replace oB := ownsRow_setCell_below (a := ⟨w.heap.size + 1, 1, none⟩) (ownsRow_setCell_below (a := ⟨w.heap.size + 1, 0, none⟩) oB (by simp only; omega) (.slice A' (k + 1) ca')) (by simp only; omega) (.slice B' (k + 1) cb')
            replace oC := ownsRow_setCell_below (a := ⟨w.heap.size + 1, 1, none⟩) (ownsRow_setCell_below (a := ⟨w.heap.size + 1, 0, none⟩) oC (by simp only; omega) (.slice A' (k + 1) ca')) (by simp only; omega) (.slice B' (k + 1) cb')
            replace oD := ownsRow_setCell_below (a := ⟨w.heap.size + 1, 1, none⟩) (ownsRow_setCell_below (a := ⟨w.heap.size + 1, 0, none⟩) oD (by simp only; omega) (.slice A' (k + 1) ca')) (by simp only; omega) (.slice B' (k + 1) cb')
            simp only [List.setIfInBounds_toArray, List.set_cons_zero, List.set_cons_succ] at KE
            have zw0 : wi.heap.size ≤ ((wp0.setCell ⟨w.heap.size + 1, 0, none⟩ (.slice A' (k + 1) ca')).setCell ⟨w.heap.size + 1, 1, none⟩ (.slice B' (k + 1) cb')).heap.size := by simp [World.setCell]; simp at z9; omega
            generalize (wp0.setCell ⟨w.heap.size + 1, 0, none⟩ (.slice A' (k + 1) ca')).setCell ⟨w.heap.size + 1, 1, none⟩ (.slice B' (k + 1) cb') = wq0 at *
            clear z9
            have G1' := G1.drew
            have G2' := G2.drew
            have KE' := KE.drew
            obtain ⟨e0, e1, e2, e3, _⟩ := blk4_at KE'
            have aa0 := G1'.cell 0
            have aa1 := G1'.cell 1
            have aa2 := G1'.cell 2
            simp only [List.getElem?_toArray, List.getElem?_cons_succ, List.getElem?_cons_zero] at aa0 aa1 aa2
            have bb0 := G2'.cell 0
            have bb1 := G2'.cell 1
            have bb2 := G2'.cell 2
            simp only [List.getElem?_toArray, List.getElem?_cons_succ, List.getElem?_cons_zero] at bb0 bb1 bb2
            refine wp_region_T (S := fun w' => Ev2 wq0.drew w' C D) (D := #[true, true, true, true, true, true, true, true, true, true, true, true, true, false, false, false]) (is := [13, 14, 15]) (l := [_, _, _]) (n := 13) (by kernel_rfl) (by rfl) (by kernel_rfl) (by rfl) (Ev2.refl _ _ _) (fun hHeld => ?_)
            refine wpAnyT_take (i := 0) (oi := _) (v := .pointer (some ⟨w.heap.size + 1, 2, none⟩)) rfl (by kernel_rfl) (by kernel_rfl) (by kernel_rfl) (by kernel_rfl) rfl (by kernel_rfl) (fun _ _ _ h => h) (Or.inl ⟨by rfl, ?_⟩) (by assumption) ?_
            · intro w' hS'
              go_simp
            simp only [List.getElem_toArray, List.getElem_cons_zero, List.getElem_cons_succ, Act.put, List.setIfInBounds_toArray, List.set_cons_zero, List.set_cons_succ]
            refine wpAnyT_take (i := 1) (oi := _) (v := .slice C k cc) rfl (by kernel_rfl) (by kernel_rfl) (by kernel_rfl) (by kernel_rfl) rfl (by kernel_rfl) (fun _ _ _ h => h) (Or.inl ⟨by rfl, ?_⟩) (by assumption) ?_
            · intro w' hS'
              have c := hS'.cell (b := w.heap.size + 1) (o := 2) e2 (fun a ha => by have h9 := (lC' a ha).2; have h8 := (lC' a ha).1; omega) (fun a ha => by have h9 := (lD' a ha).2; have h8 := (lD' a ha).1; omega)
              go_simp
            simp only [List.getElem_toArray, List.getElem_cons_zero, List.getElem_cons_succ, Act.put, List.setIfInBounds_toArray, List.set_cons_zero, List.set_cons_succ]
            refine wpAnyT_take (i := 2) (oi := _) (v := .pointer (some ⟨g1, 1, none⟩)) rfl (by kernel_rfl) (by kernel_rfl) (by kernel_rfl) (by kernel_rfl) rfl (by kernel_rfl) (fun _ _ _ h => h) (Or.inl ⟨by rfl, ?_⟩) (by assumption) ?_
            · intro w' hS'
              go_simp
            simp only [List.getElem_toArray, List.getElem_cons_zero, List.getElem_cons_succ, Act.put, List.setIfInBounds_toArray, List.set_cons_zero, List.set_cons_succ]
            refine wpAnyT_take (i := 3) (oi := _) (v := .int .i64 (mnW pY xs a j)) rfl (by kernel_rfl) (by kernel_rfl) (by kernel_rfl) (by kernel_rfl) rfl (by kernel_rfl) (fun _ _ _ h => h) (Or.inl ⟨by rfl, ?_⟩) (by assumption) ?_
            · intro w' hS'
              have c := hS'.cell (b := g1) (o := 1) aa1 (fun a ha => by have h9 := (lC' a ha).2; have h8 := (lC' a ha).1; omega) (fun a ha => by have h9 := (lD' a ha).2; have h8 := (lD' a ha).1; omega)
              go_simp
            simp only [List.getElem_toArray, List.getElem_cons_zero, List.getElem_cons_succ, Act.put, List.setIfInBounds_toArray, List.set_cons_zero, List.set_cons_succ]
            refine wpAnyT_take (i := 6) (oi := _) (v := .pointer (some ⟨w.heap.size + 1, 3, none⟩)) rfl (by kernel_rfl) (by kernel_rfl) (by kernel_rfl) (by kernel_rfl) rfl (by kernel_rfl) (fun _ _ _ h => h) (Or.inl ⟨by rfl, ?_⟩) (by assumption) ?_
            · intro w' hS'
              go_simp
            simp only [List.getElem_toArray, List.getElem_cons_zero, List.getElem_cons_succ, Act.put, List.setIfInBounds_toArray, List.set_cons_zero, List.set_cons_succ]
            refine wpAnyT_take (i := 7) (oi := _) (v := .slice D k cd) rfl (by kernel_rfl) (by kernel_rfl) (by kernel_rfl) (by kernel_rfl) rfl (by kernel_rfl) (fun _ _ _ h => h) (Or.inl ⟨by rfl, ?_⟩) (by assumption) ?_
            · intro w' hS'
              have c := hS'.cell (b := w.heap.size + 1) (o := 3) e3 (fun a ha => by have h9 := (lC' a ha).2; have h8 := (lC' a ha).1; omega) (fun a ha => by have h9 := (lD' a ha).2; have h8 := (lD' a ha).1; omega)
              go_simp
            simp only [List.getElem_toArray, List.getElem_cons_zero, List.getElem_cons_succ, Act.put, List.setIfInBounds_toArray, List.set_cons_zero, List.set_cons_succ]
            refine wpAnyT_take (i := 8) (oi := _) (v := .pointer (some ⟨g2, 1, none⟩)) rfl (by kernel_rfl) (by kernel_rfl) (by kernel_rfl) (by kernel_rfl) rfl (by kernel_rfl) (fun _ _ _ h => h) (Or.inl ⟨by rfl, ?_⟩) (by assumption) ?_
            · intro w' hS'
              go_simp
            simp only [List.getElem_toArray, List.getElem_cons_zero, List.getElem_cons_succ, Act.put, List.setIfInBounds_toArray, List.set_cons_zero, List.set_cons_succ]
            refine wpAnyT_take (i := 9) (oi := _) (v := .int .i64 (mxW pY xs a j)) rfl (by kernel_rfl) (by kernel_rfl) (by kernel_rfl) (by kernel_rfl) rfl (by kernel_rfl) (fun _ _ _ h => h) (Or.inl ⟨by rfl, ?_⟩) (by assumption) ?_
            · intro w' hS'
              have c := hS'.cell (b := g2) (o := 1) bb1 (fun a ha => by have h9 := (lC' a ha).2; have h8 := (lC' a ha).1; omega) (fun a ha => by have h9 := (lD' a ha).2; have h8 := (lD' a ha).1; omega)
              go_simp
            simp only [List.getElem_toArray, List.getElem_cons_zero, List.getElem_cons_succ, Act.put, List.setIfInBounds_toArray, List.set_cons_zero, List.set_cons_succ]
            refine two_pairs _ _ _ _ _ 4 5 10 11 12 90 91 96 97 98 89 95 87 93 7 (.pointer (some ⟨w.heap.size + 1, 0, none⟩)) (.pointer (some ⟨w.heap.size + 1, 2, none⟩)) rfl rfl rfl rfl rfl rfl rfl rfl rfl rfl rfl rfl rfl rfl rfl rfl rfl rfl
              (fun a' w' K' E he hk => by
                rw [if_pos (by rfl)]
                unfold Oper.wp execOp
                have he2 : a'.tmps[7]?.getD undef = .pointer (some ⟨w.heap.size + 1, 0, none⟩) := by simpa [Act.eval] using he
                go_simp
                exact hk)
              (by decide) (by decide) (by simp) (by simp)
              (by kernel_rfl) (by kernel_rfl) (by kernel_rfl) (by kernel_rfl) (by kernel_rfl) (by kernel_rfl) (by kernel_rfl) (by kernel_rfl) (by kernel_rfl) (by kernel_rfl) (w.heap.size + 2) k k cc cd C D _ _ L2 L3 rfl rfl rfl rfl rfl oC.drew oD.drew jCD (by omega) (by omega) (by rw [hs_drew]; omega) (fun _ h => h) ?_
            intro C' D' cc' cd' u1_ u3_ wp1 oC oD jCD fr1 fr3 hE
            simp only [Act.put, List.setIfInBounds_toArray, List.set_cons_zero, List.set_cons_succ]
            clear hHeld KE' G1' G2' e0 e1 e2 e3 aa0 aa1 aa2 bb0 bb1 bb2
            have lA9 := own_blk oA
            have lB9 := own_blk oB
            have z9 := hE.size
            replace oA := hE.own (oA.drew) ((jAC).sym) ((jAD).sym)
            replace oB := hE.own (oB.drew) ((jBC).sym) ((jBD).sym)
            replace jAC := (djB.fr ((jAC).sym) fr1 rfl (fun b hb => (lA9 b hb).2)).sym
            replace jBC := (djB.fr ((jBC).sym) fr1 rfl (fun b hb => (lB9 b hb).2)).sym
            replace jAD := (djB.fr ((jAD).sym) fr3 rfl (fun b hb => (lA9 b hb).2)).sym
            replace jBD := (djB.fr ((jBD).sym) fr3 rfl (fun b hb => (lB9 b hb).2)).sym
            replace KO := hE.blk KO.drew (fun a ha => by have h9 := (lC' a ha).2; have h8 := (lC' a ha).1; omega) (fun a ha => by have h9 := (lD' a ha).2; have h8 := (lD' a ha).1; omega)
            replace KE := hE.blk KE.drew (fun a ha => by have h9 := (lC' a ha).2; have h8 := (lC' a ha).1; omega) (fun a ha => by have h9 := (lD' a ha).2; have h8 := (lD' a ha).1; omega)
            replace G1 := hE.blk G1.drew (fun a ha => by have h9 := (lC' a ha).2; have h8 := (lC' a ha).1; omega) (fun a ha => by have h9 := (lD' a ha).2; have h8 := (lD' a ha).1; omega)
            replace G2 := hE.blk G2.drew (fun a ha => by have h9 := (lC' a ha).2; have h8 := (lC' a ha).1; omega) (fun a ha => by have h9 := (lD' a ha).2; have h8 := (lD' a ha).1; omega)
            replace hb : Below w.heap.size w wp1 := hb.drew.trans (hE.below (by rw [hs_drew]; omega) (fun a ha => by have h8 := (lC' a ha).1; omega) (fun a ha => by have h8 := (lD' a ha).1; omega))
            clear hE fr1 fr3 lA9 lB9
            obtain ⟨e0, e1, e2, e3, f0, f1, f2, f3⟩ := blk4_at KE
            go_wp2_with fail
            clear e0 e1 e2 e3 f0 f1 f2 f3
            replace KO := (KO.far (p := ⟨w.heap.size + 1, 2, none⟩) (by simp only; omega) (.slice C' (k + 1) cc')).far (p := ⟨w.heap.size + 1, 3, none⟩) (by simp only; omega) (.slice D' (k + 1) cd')
            replace KE := (KE.set_ 2 (.slice C' (k + 1) cc')).set_ 3 (.slice D' (k + 1) cd')
            replace G1 := (G1.far (p := ⟨w.heap.size + 1, 2, none⟩) (by simp only; omega) (.slice C' (k + 1) cc')).far (p := ⟨w.heap.size + 1, 3, none⟩) (by simp only; omega) (.slice D' (k + 1) cd')
            replace G2 := (G2.far (p := ⟨w.heap.size + 1, 2, none⟩) (by simp only; omega) (.slice C' (k + 1) cc')).far (p := ⟨w.heap.size + 1, 3, none⟩) (by simp only; omega) (.slice D' (k + 1) cd')
            replace hb := (hb.setCell (p := ⟨w.heap.size + 1, 2, none⟩) (by simp only; omega) (.slice C' (k + 1) cc')).setCell (p := ⟨w.heap.size + 1, 3, none⟩) (by simp only; omega) (.slice D' (k + 1) cd')
            replace oA := ownsRow_setCell_below (a := ⟨w.heap.size + 1, 3, none⟩) (ownsRow_setCell_below (a := ⟨w.heap.size + 1, 2, none⟩) oA (by simp only; omega) (.slice C' (k + 1) cc')) (by simp only; omega) (.slice D' (k + 1) cd')
            replace oB := ownsRow_setCell_below (a := ⟨w.heap.size + 1, 3, none⟩) (ownsRow_setCell_below (a := ⟨w.heap.size + 1, 2, none⟩) oB (by simp only; omega) (.slice C' (k + 1) cc')) (by simp only; omega) (.slice D' (k + 1) cd')
            replace oC := ownsRow_setCell_below (a := ⟨w.heap.size + 1, 3, none⟩) (ownsRow_setCell_below (a := ⟨w.heap.size + 1, 2, none⟩) oC (by simp only; omega) (.slice C' (k + 1) cc')) (by simp only; omega) (.slice D' (k + 1) cd')
            replace oD := ownsRow_setCell_below (a := ⟨w.heap.size + 1, 3, none⟩) (ownsRow_setCell_below (a := ⟨w.heap.size + 1, 2, none⟩) oD (by simp only; omega) (.slice C' (k + 1) cc')) (by simp only; omega) (.slice D' (k + 1) cd')
            simp only [List.setIfInBounds_toArray, List.set_cons_zero, List.set_cons_succ] at KE
            have zw1 : wi.heap.size ≤ ((wp1.setCell ⟨w.heap.size + 1, 2, none⟩ (.slice C' (k + 1) cc')).setCell ⟨w.heap.size + 1, 3, none⟩ (.slice D' (k + 1) cd')).heap.size := by simp [World.setCell]; simp at z9; omega
            generalize (wp1.setCell ⟨w.heap.size + 1, 2, none⟩ (.slice C' (k + 1) cc')).setCell ⟨w.heap.size + 1, 3, none⟩ (.slice D' (k + 1) cd') = wq1 at *
            clear z9
            go_wp2
            exact ⟨⟨k + 1, ca', cb', cc', cd', A', B', C', D', by omega, by go_num, hb, KO, KE, by show R4 _ _ _ _ _ _ _ _ _ _ _ _ _ _ _; rw [HF.out.1, HF.out.2.1, HF.out.2.2.1, HF.out.2.2.2]; exact ⟨oA, oB, oC, oD, jAB, jAC, jAD, jBC, jBD, jCD⟩⟩, by simp [intOf]; omega⟩
    · have hkn : k = N := by omega
      subst hkn
      obtain ⟨e0, e1, e2, e3, _, _, _, _⟩ := blk4_at KE
      obtain ⟨d0, d1, d2, d3, f0, f1, f2, f3⟩ := blk4_at KO
      have zE := KE.lt
      have zO := KO.lt
      obtain ⟨oA, oB, oC, oD, J⟩ := HR4.out
      have P := Lib.hid (And.intro oA (And.intro oB (And.intro oC oD)))
      clear KO KE oA oB oC oD
      go_wp2
      refine bodyPost_ret (v := .agg #[.slice A k ca, .slice B k cb, .slice C k cc, .slice D k cd]) (by simp [results, Try.results87, go_sem, d0, d1, d2, d3]) rfl ⟨A, B, C, D, ca, cb, cc, cd, rfl, ?_, (by repeat (first | exact Below.refl _ _ | assumption | refine Below.drew ?_ | refine below_drewN ?_ _ | refine Below.alloc ?_ (by first | omega | (simp <;> omega)) _ | refine Below.setCell ?_ (by first | omega | (simp <;> omega)) _))⟩
      obtain ⟨oA, oB, oC, oD⟩ := P.out
      refine ⟨?_, ?_, ?_, ?_, J⟩ <;> refine own_mono (base := w.heap.size + 2) ?_ (by omega)
      · exact ownsRow_setCell_below (ownsRow_setCell_below (ownsRow_setCell_below (ownsRow_setCell_below (oA) (by simp only; omega) _) (by simp only; omega) _) (by simp only; omega) _) (by simp only; omega) _
      · exact ownsRow_setCell_below (ownsRow_setCell_below (ownsRow_setCell_below (ownsRow_setCell_below (oB) (by simp only; omega) _) (by simp only; omega) _) (by simp only; omega) _) (by simp only; omega) _
      · exact ownsRow_setCell_below (ownsRow_setCell_below (ownsRow_setCell_below (ownsRow_setCell_below (oC) (by simp only; omega) _) (by simp only; omega) _) (by simp only; omega) _) (by simp only; omega) _
      · exact ownsRow_setCell_below (ownsRow_setCell_below (ownsRow_setCell_below (ownsRow_setCell_below (oD) (by simp only; omega) _) (by simp only; omega) _) (by simp only; omega) _) (by simp only; omega) _
end Go.Proofs.Ytkldejbhhbgefaa
