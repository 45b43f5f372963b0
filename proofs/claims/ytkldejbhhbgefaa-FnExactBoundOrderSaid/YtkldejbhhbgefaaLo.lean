/- LowerBound. -/
import Derived.Test.YtkldejbhhbgefaaLw
import Derived.Test.YtkldejbhhbgefaaEm
namespace Go.Proofs.Ytkldejbhhbgefaa
open Go.ChangeShapes Go.WideShapes Go.ChangeAt Go.RowKit
set_option linter.unusedVariables false
set_option linter.unusedSimpArgs false
def lbR (xs ys : List T3) (band : Int) : Int := if elE xs ys band = 0 then lbndV xs ys band.toNat else 0
theorem feats_pX {xs : List T3} (h : featsOk 72 xs = true) : ∀ x ∈ xs, 0 ≤ pX x ∧ pX x ≤ 255 := fun x hx => (featB_iff.1 (List.all_eq_true.1 (featsOk_all h) x hx)).1
theorem feats_pY {xs : List T3} (h : featsOk 72 xs = true) : ∀ x ∈ xs, 0 ≤ pY x ∧ pY x ≤ 255 := fun x hx => (featB_iff.1 (List.all_eq_true.1 (featsOk_all h) x hx)).2.1
theorem vl_pX {xs ys : List T3} {bd n m : Nat} (hx : featsOk 72 xs = true) (hy : featsOk 72 ys = true) (hn : xs.length = n) (hm : ys.length = m) (hw : bandOk n m (bd : Int) = true) : vlB (mnL pX ys bd n) (mxL pX ys bd n) = true ∧ vlB (mnL pY ys bd n) (mxL pY ys bd n) = true ∧ 1 ≤ m ∧ m ≤ 72 ∧ 1 ≤ n ∧ n ≤ 72 ∧ bd ≤ 72 ∧ n ≤ m + bd := by
  have a1 := featsOk_len hx
  have a2 := featsOk_len hy
  obtain ⟨⟨_, w1⟩, w2⟩ := bandOk_iff.1 hw
  exact ⟨vlB_of (feats_pX hy) (by omega) (by omega), vlB_of (feats_pY hy) (by omega) (by omega), by omega, by omega, by omega, by omega, by omega, by omega⟩
theorem outV_bd {xs : List T3} {la lb lc ld : List Int} (hx : featsOk 72 xs = true) (h1 : vlB la lb = true) (h2 : vlB lc ld = true) (e1 : la.length = xs.length) (e2 : lb.length = xs.length) (e3 : lc.length = xs.length) (e4 : ld.length = xs.length) :
    ∀ {k : Nat}, k ≤ xs.length → 0 ≤ outV xs la lb lc ld k ∧ outV xs la lb lc ld k ≤ 510 * (k : Int)
  | 0, _ => by unfold outV; simp
  | k + 1, h => by
    have ih := outV_bd hx h1 h2 e1 e2 e3 e4 (show k ≤ xs.length by omega)
    have g0 : xs[k]? = some (xs[k]'(by omega)) := List.getElem?_eq_getElem (by omega)
    have ga : la[k]? = some (la[k]'(by omega)) := List.getElem?_eq_getElem (by omega)
    have gb : lb[k]? = some (lb[k]'(by omega)) := List.getElem?_eq_getElem (by omega)
    have gc : lc[k]? = some (lc[k]'(by omega)) := List.getElem?_eq_getElem (by omega)
    have gd : ld[k]? = some (ld[k]'(by omega)) := List.getElem?_eq_getElem (by omega)
    obtain ⟨a1, a2, a3⟩ := vlB_at h1 ga gb
    obtain ⟨b1, b2, b3⟩ := vlB_at h2 gc gd
    obtain ⟨⟨x0, x1⟩, ⟨y0, y1⟩, _⟩ := featB_iff.1 (show featB (xs[k]'(by omega)).1 (xs[k]'(by omega)).2.1 (xs[k]'(by omega)).2.2 = true from all_at (p := featOk) (featsOk_all hx) g0)
    have p1 := offI_bd x0 x1 a1 a2 a3
    have p2 := offI_bd y0 y1 b1 b2 b3
    rw [outV_step]; unfold offK
    rw [getD_of g0, getD_of ga, getD_of gb, getD_of gc, getD_of gd]
    omega
theorem endsF_bd {xs ys : List T3} (hx : featsOk 72 xs = true) (hy : featsOk 72 ys = true) : 0 ≤ endsF xs ys ∧ endsF xs ys ≤ 2000 := by
  have a1 := featsOk_len hx
  have a2 := featsOk_len hy
  have e0 : xs[0]? = some (xs[0]'(by omega)) := List.getElem?_eq_getElem (by omega)
  have e1 : ys[0]? = some (ys[0]'(by omega)) := List.getElem?_eq_getElem (by omega)
  have e2 : xs[xs.length - 1]? = some (xs[xs.length - 1]'(by omega)) := List.getElem?_eq_getElem (by omega)
  have e3 : ys[ys.length - 1]? = some (ys[ys.length - 1]'(by omega)) := List.getElem?_eq_getElem (by omega)
  have c1 := cost_bd (all_at (p := featOk) (featsOk_all hx) e0) (all_at (p := featOk) (featsOk_all hy) e1)
  have c2 := cost_bd (all_at (p := featOk) (featsOk_all hx) e2) (all_at (p := featOk) (featsOk_all hy) e3)
  unfold endsF
  rw [f0_of e0, f0_of e1, fl_of rfl e2, fl_of rfl e3]
  split <;> omega
set_option maxRecDepth 100000 in
set_option maxHeartbeats 4000000 in
theorem lowerBound_any (A B : Option Addr) (n ca m cb : Nat) (xs ys : List T3) (bd : Nat) (w : World) (hr : RdL c3 3 w w.heap.size A n ca xs) (hr' : RdL c3 3 w w.heap.size B m cb ys) (hx : featsOk 72 xs = true) (hy : featsOk 72 ys = true) (hw : bandOk n m (bd : Int) = true) :
    Calls Try.prog 52 #[.slice A n ca, .slice B m cb, .int .i64 bd] w fun e w' => e = .returned (.int .i64 (lbndV xs ys bd)) ∧ Below w.heap.size w w' := by
  have hl := Lib.hid hr.len
  have hl' := Lib.hid hr'.len
  obtain ⟨v1, v2, m1, m2, n1, n2, b2, nm⟩ := vl_pX hx hy hl.out hl'.out hw
  have V1 := Lib.hid v1
  have V2 := Lib.hid v2
  have HX := Lib.hid hx
  have HY := Lib.hid hy
  have VB := Lib.hid (outV_bd hx v1 v2 (by rw [mnL_len, hl.out]) (by rw [mxL_len, hl.out]) (by rw [mnL_len, hl.out]) (by rw [mxL_len, hl.out]) (k := n) (by rw [hl.out]; exact Nat.le_refl _))
  have EB := Lib.hid (endsF_bd hx hy)
  have HL : Hid (lbndV xs ys bd = max (outV xs (mnL pX ys bd n) (mxL pX ys bd n) (mnL pY ys bd n) (mxL pY ys bd n) n) (endsF xs ys)) := by unfold Hid lbndV; rw [hl.out]
  have HR := Lib.hid hr
  have HR' := Lib.hid hr'
  clear hx hy hw v1 v2 hr hr'
  go_enter Try.func52, Try.ntmps52
  go_wp2_with fail
  with_reducible refine (envelopeOf_any _ _ _ ys _ bd _ HR'.out HY.out m1 m2 n2 b2 nm).mono ?_
  rintro e w1 ⟨P, Q, R, S, cp, cq, cr, cs, rfl, r4, hbw1⟩
  obtain ⟨oP, oQ, oR, oS, _⟩ := r4
  replace oP := Lib.hid (RdL.of_own (mnL_len pX ys bd n) oP)
  replace oQ := Lib.hid (RdL.of_own (mxL_len pX ys bd n) oQ)
  replace oR := Lib.hid (RdL.of_own (mnL_len pY ys bd n) oR)
  replace oS := Lib.hid (RdL.of_own (mxL_len pY ys bd n) oS)
  go_wp2_with fail
  with_reducible refine (outsideOf_any _ _ _ _ _ _ _ _ _ _ _ xs _ _ _ _ _ (HR.out.on hbw1) oP.out oQ.out oR.out oS.out n2 HX.out V1.out V2.out).mono ?_
  rintro e w2 ⟨rfl, hbw2⟩
  replace hbw1 := below_on hbw2 hbw1
  go_wp2_with fail
  with_reducible refine (endsBound_any _ _ _ _ _ _ xs ys _ (HR.out.on hbw1) (HR'.out.on hbw1) HX.out HY.out).mono ?_
  rintro e w3 ⟨rfl, hbw3⟩
  replace hbw1 := below_on hbw3 hbw1
  obtain ⟨va, hva⟩ : ∃ v, outV xs (mnL pX ys bd n) (mxL pX ys bd n) (mnL pY ys bd n) (mxL pY ys bd n) n = v := ⟨_, rfl⟩
  obtain ⟨vb, hvb⟩ : ∃ v, endsF xs ys = v := ⟨_, rfl⟩
  rw [hva, hvb] at HL
  rw [hva, hvb]
  clear hva hvb
  go_wp2
  all_goals
    go_ret
    exact ⟨ret_int (by rw [HL.out]; omega), hbw1⟩
set_option maxRecDepth 100000 in
set_option maxHeartbeats 4000000 in
theorem l10Bound_any (A B : Option Addr) (n ca m cb : Nat) (xs ys : List T3) (bd : Nat) (w : World) (hr : RdL c3 3 w w.heap.size A n ca xs) (hr' : RdL c3 3 w w.heap.size B m cb ys) (hx : featsOk 72 xs = true) (hy : featsOk 72 ys = true) (hw : bandOk n m (bd : Int) = true) :
    Calls Try.prog 47 #[.slice A n ca, .slice B m cb, .int .i64 bd] w fun e w' => e = .returned (.int .i64 (lbndV xs ys bd)) ∧ Below w.heap.size w w' := by
  have hl := Lib.hid hr.len
  have hl' := Lib.hid hr'.len
  obtain ⟨v1, v2, m1, m2, n1, n2, b2, nm⟩ := vl_pX hx hy hl.out hl'.out hw
  have V1 := Lib.hid v1
  have V2 := Lib.hid v2
  have HX := Lib.hid hx
  have HY := Lib.hid hy
  have VB := Lib.hid (outV_bd hx v1 v2 (by rw [mnL_len, hl.out]) (by rw [mxL_len, hl.out]) (by rw [mnL_len, hl.out]) (by rw [mxL_len, hl.out]) (k := n) (by rw [hl.out]; exact Nat.le_refl _))
  have EB := Lib.hid (endsF_bd hx hy)
  have HL : Hid (lbndV xs ys bd = max (outV xs (mnL pX ys bd n) (mxL pX ys bd n) (mnL pY ys bd n) (mxL pY ys bd n) n) (endsF xs ys)) := by unfold Hid lbndV; rw [hl.out]
  have HR := Lib.hid hr
  have HR' := Lib.hid hr'
  clear hx hy hw v1 v2 hr hr'
  go_enter Try.func47, Try.ntmps47
  go_wp2_with fail
  with_reducible refine (l10Of_any _ _ _ ys _ bd _ HR'.out HY.out m1 m2 n2 b2 nm).mono ?_
  rintro e w1 ⟨P, Q, R, S, cp, cq, cr, cs, rfl, r4, hbw1⟩
  obtain ⟨oP, oQ, oR, oS, _⟩ := r4
  go_wp2_with fail
  have K0 := Blk.new (w1) 117 #[.slice P n cp, .slice Q n cq, .slice R n cr, .slice S n cs]
  have hbv : Below (w1).heap.size (w1) ((w1).alloc (.cells #[.slice P n cp, .slice Q n cq, .slice R n cr, .slice S n cs] 117)) := (Below.refl _ _).alloc (Nat.le_refl _) _
  generalize (w1).alloc (.cells #[.slice P n cp, .slice Q n cq, .slice R n cr, .slice S n cs] 117) = v at *
  replace oP := Lib.hid (RdL.of_own (mnL_len pX ys bd n) (own_below oP hbv))
  replace oQ := Lib.hid (RdL.of_own (mxL_len pX ys bd n) (own_below oQ hbv))
  replace oR := Lib.hid (RdL.of_own (mnL_len pY ys bd n) (own_below oR hbv))
  replace oS := Lib.hid (RdL.of_own (mxL_len pY ys bd n) (own_below oS hbv))
  replace hbw1 := below_on hbv hbw1
  with_reducible refine (l10Outside_any _ _ _ _ _ _ _ _ _ _ _ xs _ _ _ _ _ _ _ K0 (HR.out.on hbw1) oP.out oQ.out oR.out oS.out n2 HX.out V1.out V2.out).mono ?_
  rintro e w2 ⟨rfl, hbw2⟩
  replace hbw1 := below_on hbw2 hbw1
  go_wp2_with fail
  with_reducible refine (l10Ends_any _ _ _ _ _ _ xs ys _ (HR.out.on hbw1) (HR'.out.on hbw1) HX.out HY.out).mono ?_
  rintro e w3 ⟨rfl, hbw3⟩
  replace hbw1 := below_on hbw3 hbw1
  obtain ⟨va, hva⟩ : ∃ v, outV xs (mnL pX ys bd n) (mxL pX ys bd n) (mnL pY ys bd n) (mxL pY ys bd n) n = v := ⟨_, rfl⟩
  obtain ⟨vb, hvb⟩ : ∃ v, endsF xs ys = v := ⟨_, rfl⟩
  rw [hva, hvb] at HL
  rw [hva, hvb]
  clear hva hvb
  go_wp2_with (go_at_call 82; with_reducible refine (l00Max_any _ _ _).mono ?_; rintro e w' ⟨rfl, rfl⟩)
  go_ret
  exact ⟨ret_int HL.out.symm, hbw1⟩
end Go.Proofs.Ytkldejbhhbgefaa
