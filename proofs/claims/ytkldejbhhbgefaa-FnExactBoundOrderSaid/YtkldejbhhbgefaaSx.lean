/- slices.SortStableFunc over matches: walked. -/
import Derived.Test.YtkldejbhhbgefaaSw
import Derived.Test.YtkldejbhhbgefaaFlMatch
import Derived.BigRegion
import Derived.BigQuiet
import Derived.Deep.QuietTactic
import Derived.Deep.Cut
import Derived.Deep.CutRange
import Derived.IntWalk
namespace Go.Proofs.Ytkldejbhhbgefaa
open Go.ChangeShapes Go.WideShapes Go.ChangeAt Go.RowKit
set_option linter.unusedVariables false
set_option linter.unusedSimpArgs false
theorem putS2 {w : World} {base g n c i : Nat} {e : TypeId} {xs : List T2} (h : w.ownsRow base e 2 (.slice (some ⟨g, 0, none⟩) n c) n (xs.flatMap c2)) (hi : i < xs.length) (p : T2) :
    ((w.setCell ⟨g, i * 2, none⟩ (.int .i64 p.1)).setCell ⟨g, i * 2 + 1, none⟩ (.int .i64 p.2)).ownsRow base e 2 (.slice (some ⟨g, 0, none⟩) n c) n ((xs.set i p).flatMap c2) := by
  have h1 := ((h.stored (i * 2) (.int .i64 p.1)).1.stored (i * 2 + 1) (.int .i64 p.2)).1
  have hx : xs = xs.take i ++ xs[i] :: xs.drop (i + 1) := by rw [List.getElem_cons_drop, List.take_append_drop]
  have hl : (xs.take i).length = i := by rw [List.length_take]; omega
  have e1 : (((xs.flatMap c2).set (i * 2) (.int .i64 p.1)).set (i * 2 + 1) (.int .i64 p.2)) = (xs.set i p).flatMap c2 := by
    have e2 : xs.set i p = xs.take i ++ p :: xs.drop (i + 1) := by rw [List.set_eq_take_append_cons_drop, if_pos hi]
    rw [e2]
    conv => lhs; rw [hx]
    rw [List.flatMap_append, List.flatMap_cons, List.flatMap_append, List.flatMap_cons]
    have hf : ((xs.take i).flatMap c2).length = i * 2 := by rw [flat_len c2_len, hl]
    rw [List.set_append_right _ _ (by omega), show i * 2 - ((xs.take i).flatMap c2).length = 0 by omega, List.set_append_right _ _ (by omega), show i * 2 + 1 - ((xs.take i).flatMap c2).length = 1 by omega]
    rfl
  rw [e1] at h1
  exact h1
theorem own_at2 {w : World} {base g n c i : Nat} {e : TypeId} {xs : List T2} {x : T2} (h : w.ownsRow base e 2 (.slice (some ⟨g, 0, none⟩) n c) n (xs.flatMap c2)) (hx : xs[i]? = some x) :
    w.cell? ⟨g, i * 2, none⟩ = some (.int .i64 x.1) ∧ w.cell? ⟨g, i * 2 + 1, none⟩ = some (.int .i64 x.2) ∧ w.frozen? ⟨g, i * 2, none⟩ = false ∧ w.frozen? ⟨g, i * 2 + 1, none⟩ = false := by
  have hi := (List.getElem?_eq_some_iff.1 hx).1
  have hn : xs.length * 2 = n * 2 := by have := h.1; rw [flat_len c2_len] at this; exact this
  refine ⟨?_, ?_, h.frozenAt _, h.frozenAt _⟩
  · have h9 := h.cellAt (i * 2 + 0) (by omega)
    rw [flat_get c2_len xs i 0 x hx (by omega)] at h9
    simpa [c2] using h9
  · have h9 := h.cellAt (i * 2 + 1) (by omega)
    rw [flat_get c2_len xs i 1 x hx (by omega)] at h9
    simpa [c2] using h9
set_option maxRecDepth 100000 in
set_option maxHeartbeats 8000000 in
theorem swapRange_any (g n c base k a b : Nat) (F : Value) (L A M B R : List T2) (w : World) (ho : w.ownsRow base 92 2 (.slice (some ⟨g, 0, none⟩) n c) n ((L ++ (A ++ (M ++ (B ++ R)))).flatMap c2)) (hL : L.length = a) (hA : A.length = k) (hB : B.length = k) (hb : a + k + M.length = b) (hn : n ≤ 1000) :
    Calls Try.prog 134 #[.slice (some ⟨g, 0, none⟩) n c, .int .i64 (a : Int), .int .i64 (b : Int), .int .i64 (k : Int), F] w fun e w' => e = .returned (.tuple #[]) ∧
      w'.ownsRow base 92 2 (.slice (some ⟨g, 0, none⟩) n c) n ((L ++ (B ++ (M ++ (A ++ R)))).flatMap c2) ∧ Below base w w' := by
  have hlen : a + k + M.length + k + R.length = n := by
    have := ho.1; rw [flat_len c2_len] at this; simp only [List.length_append] at this; omega
  have hg := (ho.lt g rfl)
  have HS : Hid (w.ownsRow base 92 2 (.slice (some ⟨g, 0, none⟩) n c) n ((swR L A M B R 0).flatMap c2)) := by show World.ownsRow _ _ _ _ _ _ _; rw [swR_zero]; exact ho
  have HE : Hid (swR L A M B R k = L ++ (B ++ (M ++ (A ++ R)))) := swR_all hA hB
  have HL := Lib.hid hL
  have HA := Lib.hid hA
  have HB := Lib.hid hB
  clear ho hL hA hB
  go_enter Try.func134, Try.ntmps134
  go_wp2_with fail
  go_loopw [10] (fun i wr => ∃ t : Nat, t ≤ k ∧ i = .int .i64 t ∧ Below base w wr ∧ Hid (wr.ownsRow base 92 2 (.slice (some ⟨g, 0, none⟩) n c) n ((swR L A M B R t).flatMap c2))) (fun i _ => k - (intOf i).toNat)
  case atStart => exact ⟨0, by omega, rfl, Below.refl _ _, HS.out⟩
  case round =>
    obtain ⟨t, ht, rfl, hbw, hO⟩ := hrel
    by_cases hlt : t < k
    · obtain ⟨x, hx⟩ : ∃ x, A[t]? = some x := ⟨_, List.getElem?_eq_getElem (by rw [HA.out]; exact hlt)⟩
      obtain ⟨y, hy⟩ : ∃ y, B[t]? = some y := ⟨_, List.getElem?_eq_getElem (by rw [HB.out]; exact hlt)⟩
      obtain ⟨s1, s2, s3⟩ := swR_at (R := R) hx hy HL.out HA.out HB.out hb
      obtain ⟨i, hi⟩ : ∃ i, a + t = i := ⟨_, rfl⟩
      obtain ⟨j, hj⟩ : ∃ j, b + t = j := ⟨_, rfl⟩
      rw [hi] at s1 s3
      rw [hj] at s2 s3
      have S3 := Lib.hid s3
      have hin : i < n := by omega
      have hjn : j < n := by omega
      have hij : i < j := by omega
      obtain ⟨q0, q1, f0, f1⟩ := own_at2 hO.out s1
      obtain ⟨r0, r1, g0, g1⟩ := own_at2 hO.out s2
      have hll : Hid ((swR L A M B R t).length = n) := by show _ = _; have := hO.out.1; rw [flat_len c2_len] at this; omega
      obtain ⟨x0, x1⟩ := x
      obtain ⟨y0, y1⟩ := y
      simp only at q0 q1 r0 r1
      have o1 : IntKind.i64.wrap ((a : Int) + (t : Int)) = (i : Int) := by rw [IntWalk.i64_in _ (by omega)]; omega
      have o2 : IntKind.i64.wrap ((b : Int) + (t : Int)) = (j : Int) := by rw [IntWalk.i64_in _ (by omega)]; omega
      have i1 : (t : Int) < (k : Int) := by omega
      have i2 : (0 : Int) ≤ (t : Int) := by omega
      have i3 : (i : Int) < (n : Int) := by omega
      have i4 : (j : Int) < (n : Int) := by omega
      have i5 : (0 : Int) ≤ (i : Int) := by omega
      have i6 : (0 : Int) ≤ (j : Int) := by omega
      have hgw : g < wr.heap.size := (hO.out.lt g rfl).2
      have n1 : ¬ i * 2 = j * 2 := by omega
      have n2 : ¬ i * 2 = j * 2 + 1 := by omega
      have n3 : ¬ i * 2 + 1 = j * 2 := by omega
      have n4 : ¬ i * 2 + 1 = j * 2 + 1 := by omega
      have n5 : ¬ j * 2 = i * 2 := by omega
      have n6 : ¬ j * 2 = i * 2 + 1 := by omega
      have n7 : ¬ j * 2 + 1 = i * 2 := by omega
      have n8 : ¬ j * 2 + 1 = i * 2 + 1 := by omega
      clear hi hj hx hy s1 s2 s3
      go_wp2_with fail
      go_region
      go_wp2
      have h9 := putS2 (putS2 hO.out (i := i) (by rw [hll.out]; exact hin) (y0, y1)) (i := j) (by rw [List.length_set, hll.out]; exact hjn) (x0, x1)
      rw [S3.out] at h9
      exact ⟨⟨t + 1, by omega, by go_num, (by repeat (first | exact Below.refl _ _ | assumption | refine Below.drew ?_ | refine below_drewN ?_ _ | refine Below.alloc ?_ (by first | omega | (simp <;> omega)) _ | refine Below.setCell ?_ (by first | omega | (simp <;> omega)) _)), h9⟩, by simp [intOf]; omega⟩
    · have htk : t = k := by omega
      subst htk
      go_wp2
      exact bodyPost_end (v := .tuple #[]) (by simp [results, Try.results134, go_sem]) rfl ⟨rfl, by rw [← HE.out]; exact hO.out, hbw⟩
set_option maxRecDepth 100000 in
set_option maxHeartbeats 8000000 in
theorem rotate_any (g n c base a m b : Nat) (F : Value) (L A B R : List T2) (w : World) (ho : w.ownsRow base 92 2 (.slice (some ⟨g, 0, none⟩) n c) n ((L ++ (A ++ (B ++ R))).flatMap c2)) (hL : L.length = a) (hA : a + A.length = m) (hB : m + B.length = b) (hA0 : 0 < A.length) (hB0 : 0 < B.length) (hn : n ≤ 1000) :
    Calls Try.prog 131 #[.slice (some ⟨g, 0, none⟩) n c, .int .i64 (a : Int), .int .i64 (m : Int), .int .i64 (b : Int), F] w fun e w' => e = .returned (.tuple #[]) ∧
      w'.ownsRow base 92 2 (.slice (some ⟨g, 0, none⟩) n c) n ((L ++ (B ++ (A ++ R))).flatMap c2) ∧ Below base w w' := by
  have hlen : a + A.length + B.length + R.length = n := by
    have := ho.1; rw [flat_len c2_len] at this; simp only [List.length_append] at this; omega
  have HO := Lib.hid ho
  obtain ⟨p, hp⟩ : ∃ p, A.length = p := ⟨_, rfl⟩
  obtain ⟨q, hq⟩ : ∃ q, B.length = q := ⟨_, rfl⟩
  have HI : Hid (∃ (L' X Y R' : List T2), w.ownsRow base 92 2 (.slice (some ⟨g, 0, none⟩) n c) n ((L' ++ (X ++ (Y ++ R'))).flatMap c2) ∧ L'.length + p = m ∧ X.length = p ∧ Y.length = q ∧ L' ++ (Y ++ (X ++ R')) = L ++ (B ++ (A ++ R))) := ⟨L, A, B, R, ho, by omega, hp, hq, rfl⟩
  have o1 : IntKind.i64.wrap ((m : Int) - (a : Int)) = (p : Int) := by rw [IntWalk.i64_in _ (by omega)]; omega
  have o2 : IntKind.i64.wrap ((b : Int) - (m : Int)) = (q : Int) := by rw [IntWalk.i64_in _ (by omega)]; omega
  rw [hp] at hA0
  rw [hq] at hB0
  have hpm : p ≤ m := by omega
  have hmq : m + q ≤ n := by omega
  clear ho hp hq hL hA hB
  go_enter Try.func131, Try.ntmps131
  go_wp2_with fail
  clear o1 o2
  go_loopw [10, 11] (fun i j wr => ∃ p' q' : Nat, i = .int .i64 p' ∧ j = .int .i64 q' ∧ 0 < p' ∧ 0 < q' ∧ p' ≤ m ∧ m + q' ≤ n ∧ Below base w wr ∧ Hid (∃ (L' X Y R' : List T2), wr.ownsRow base 92 2 (.slice (some ⟨g, 0, none⟩) n c) n ((L' ++ (X ++ (Y ++ R'))).flatMap c2) ∧ L'.length + p' = m ∧ X.length = p' ∧ Y.length = q' ∧ L' ++ (Y ++ (X ++ R')) = L ++ (B ++ (A ++ R)))) (fun i j _ => (intOf i).toNat + (intOf j).toNat)
  case atStart => exact ⟨p, q, rfl, rfl, hA0, hB0, hpm, hmq, Below.refl _ _, HI.out⟩
  case round =>
    clear HI hA0 hB0 hpm hmq HO
    obtain ⟨p, q, rfl, rfl, hp0, hq0, hpm, hmq, hbw, hI⟩ := hrel
    obtain ⟨L', X, Y, R', hO, e1, e2, e3, e4⟩ := hI.out
    have HO := Lib.hid hO
    have HE := Lib.hid e4
    have HX := Lib.hid e2
    have HY := Lib.hid e3
    have o1 : IntKind.i64.wrap ((m : Int) - (p : Int)) = ((m - p : Nat) : Int) := by rw [IntWalk.i64_in _ (by omega)]; omega
    clear hO e2 e3 e4 hI
    by_cases hpq : p = q
    · subst hpq
      go_wp2_with fail
      with_reducible refine (swapRange_any g n c base p (m - p) m F L' X [] Y R' _ HO.out (by omega) HX.out HY.out (by simp; omega) hn).mono ?_
      rintro e w2 ⟨rfl, ho2, hb2⟩
      have O2 := Lib.hid ho2
      have hb3 := hbw.trans hb2
      clear ho2 hb2
      go_wp2
      exact bodyPost_end (v := .tuple #[]) (by simp [results, Try.results131, go_sem]) rfl ⟨rfl, by rw [← HE.out]; exact O2.out, hb3⟩
    · have hne : ¬ (p : Int) = (q : Int) := by omega
      have hneb : ((p : Int) == (q : Int)) = false := by simp; omega
      by_cases hgt : q < p
      · have i1 : (q : Int) < (p : Int) := by omega
        have o2 : IntKind.i64.wrap ((p : Int) - (q : Int)) = ((p - q : Nat) : Int) := by rw [IntWalk.i64_in _ (by omega)]; omega
        have HO' : Hid (wr.ownsRow base 92 2 (.slice (some ⟨g, 0, none⟩) n c) n ((L' ++ (X.take q ++ (X.drop q ++ (Y ++ R')))).flatMap c2)) := by show World.ownsRow _ _ _ _ _ _ _; rw [← List.append_assoc (X.take q), List.take_append_drop]; exact HO.out
        go_wp2_with fail
        with_reducible refine (swapRange_any g n c base q (m - p) m F L' (X.take q) (X.drop q) Y R' _ HO'.out (by omega) (by rw [List.length_take, HX.out]; omega) HY.out (by rw [List.length_drop, HX.out]; omega) hn).mono ?_
        rintro e w2 ⟨rfl, ho2, hb2⟩
        have O2 := Lib.hid ho2
        have hb3 := hbw.trans hb2
        clear ho2 hb2
        go_wp2
        refine ⟨⟨p - q, q, by go_num, rfl, by omega, by omega, by omega, by omega, hb3, L' ++ Y, X.drop q, X.take q, R', ?_, ?_, ?_, ?_, ?_⟩, by simp [intOf]; omega⟩
        · have h9 := O2.out; rw [List.append_assoc]; exact h9
        · rw [List.length_append, HY.out]; omega
        · rw [List.length_drop, HX.out]
        · rw [List.length_take, HX.out]; omega
        · rw [← HE.out, List.append_assoc, ← List.append_assoc (X.take q), List.take_append_drop]
      · have i1 : ¬ (q : Int) < (p : Int) := by omega
        have i1d : decide ((q : Int) < (p : Int)) = false := decide_eq_false i1
        have o2 : IntKind.i64.wrap ((q : Int) - (p : Int)) = ((q - p : Nat) : Int) := by rw [IntWalk.i64_in _ (by omega)]; omega
        have o3 : IntKind.i64.wrap ((m : Int) + (q : Int)) = ((m + q : Nat) : Int) := by rw [IntWalk.i64_in _ (by omega)]; omega
        have o4 : IntKind.i64.wrap (((m + q : Nat) : Int) - (p : Int)) = ((m + q - p : Nat) : Int) := by rw [IntWalk.i64_in _ (by omega)]; omega
        have o5 : IntKind.i64.wrap ((m : Int) + (q : Int) - (p : Int)) = ((m + q - p : Nat) : Int) := by rw [IntWalk.i64_in _ (by omega)]; omega
        have HO' : Hid (wr.ownsRow base 92 2 (.slice (some ⟨g, 0, none⟩) n c) n ((L' ++ (X ++ (Y.take (q - p) ++ (Y.drop (q - p) ++ R')))).flatMap c2)) := by show World.ownsRow _ _ _ _ _ _ _; rw [← List.append_assoc (Y.take (q - p)), List.take_append_drop]; exact HO.out
        go_wp2_with fail
        with_reducible refine (swapRange_any g n c base p (m - p) (m + q - p) F L' X (Y.take (q - p)) (Y.drop (q - p)) R' _ HO'.out (by omega) HX.out (by rw [List.length_drop, HY.out]; omega) (by rw [List.length_take, HY.out]; omega) hn).mono ?_
        rintro e w2 ⟨rfl, ho2, hb2⟩
        have O2 := Lib.hid ho2
        have hb3 := hbw.trans hb2
        clear ho2 hb2
        go_wp2
        refine ⟨⟨p, q - p, rfl, by go_num, by omega, by omega, by omega, by omega, hb3, L', Y.drop (q - p), Y.take (q - p), X ++ R', ?_, ?_, ?_, ?_, ?_⟩, by simp [intOf]; omega⟩
        · exact O2.out
        · omega
        · rw [List.length_drop, HY.out]; omega
        · rw [List.length_take, HY.out]; omega
        · rw [← HE.out, ← List.append_assoc (Y.take (q - p)), List.take_append_drop]
def cmpV (x y : Int) : Int := if x < y then -1 else if y < x then 1 else 0
theorem cmpV_lt {x y : Int} (h : x < y) : decide (cmpV x y < 0) = true := by unfold cmpV; rw [if_pos h]; rfl
theorem cmpV_lt1 {x y : Int} (h : x < y) : cmpV x y = -1 := by unfold cmpV; rw [if_pos h]
theorem cmpV_ge1 {x y : Int} (h : ¬ x < y) : cmpV x y = 0 ∨ cmpV x y = 1 := by unfold cmpV; rw [if_neg h]; split <;> simp
theorem cmpV_ge {x y : Int} (h : ¬ x < y) : decide (cmpV x y < 0) = false := by unfold cmpV; rw [if_neg h]; split <;> rfl
def kM (p : T2) : Int := p.2
def tM (p : T2) : Int := p.1
theorem isNaN_any (x : Int) (w : World) : Calls Try.prog 90 #[.int .i64 x] w fun e w' => e = .returned (.bool false) ∧ w = w' := by
  go_enter Try.func90, Try.ntmps90
  go_wp2
  go_ret
  exact ⟨ret_bool (by simp), rfl⟩
theorem compare_any (x y : Int) (w : World) : Calls Try.prog 55 #[.int .i64 x, .int .i64 y] w fun e w' => e = .returned (.int .i64 (cmpV x y)) ∧ w = w' := by
  by_cases h1 : x < y
  · have HV : Hid (cmpV x y = -1) := by show _ = _; unfold cmpV; rw [if_pos h1]
    go_enter Try.func55, Try.ntmps55
    go_wp2_with (first | (go_at_call 90; with_reducible refine (isNaN_any _ _).mono ?_; rintro e w' ⟨rfl, rfl⟩))
    go_ret
    exact ⟨ret_int HV.out.symm, rfl⟩
  · by_cases h2 : y < x
    · have HV : Hid (cmpV x y = 1) := by show _ = _; unfold cmpV; rw [if_neg h1, if_pos h2]
      go_enter Try.func55, Try.ntmps55
      go_wp2_with (first | (go_at_call 90; with_reducible refine (isNaN_any _ _).mono ?_; rintro e w' ⟨rfl, rfl⟩))
      go_ret
      exact ⟨ret_int HV.out.symm, rfl⟩
    · have HV : Hid (cmpV x y = 0) := by show _ = _; unfold cmpV; rw [if_neg h1, if_neg h2]
      go_enter Try.func55, Try.ntmps55
      go_wp2_with (first | (go_at_call 90; with_reducible refine (isNaN_any _ _).mono ?_; rintro e w' ⟨rfl, rfl⟩))
      go_ret
      exact ⟨ret_int HV.out.symm, rfl⟩
theorem cmpM_any (x0 x1 y0 y1 : Int) (w : World) : Calls Try.prog 96 #[.agg #[.int .i64 x0, .int .i64 x1], .agg #[.int .i64 y0, .int .i64 y1]] w fun e w' => e = .returned (.int .i64 (cmpV x1 y1)) ∧ Below w.heap.size w w' := by
  go_enter Try.func96, Try.ntmps96
  go_wp2_with (first | (go_at_call 55; with_reducible refine (compare_any _ _ _).mono ?_; rintro e w' ⟨rfl, rfl⟩))
  go_ret
  exact ⟨rfl, (by repeat (first | exact Below.refl _ _ | assumption | refine Below.drew ?_ | refine below_drewN ?_ _ | refine Below.alloc ?_ (by first | omega | (simp <;> omega)) _ | refine Below.setCell ?_ (by first | omega | (simp <;> omega)) _))⟩
theorem hbw0' {base : Nat} {w wr : World} (h : base ≤ w.heap.size) (hb : Below base w wr) : base ≤ wr.heap.size := Nat.le_trans h hb.size
set_option maxRecDepth 100000 in
set_option maxHeartbeats 8000000 in
theorem sm1_any (g n c base a m b : Nat) (L : List T2) (x : T2) (B R : List T2) (w : World) (ho : w.ownsRow base 92 2 (.slice (some ⟨g, 0, none⟩) n c) n ((L ++ (x :: (B ++ R))).flatMap c2)) (hL : L.length = a) (hm : a + 1 = m) (hb : m + B.length = b) (sB : Sd kM tM B) (tg : Tg tM [x] B) (hn : n ≤ 1000) (hbs : base ≤ w.heap.size) :
    Calls Try.prog 126 #[.slice (some ⟨g, 0, none⟩) n c, .int .i64 (a : Int), .int .i64 (m : Int), .int .i64 (b : Int), .func (.func 96) #[] #[]] w fun e w' => e = .returned (.tuple #[]) ∧ ∃ C, Hid (w'.ownsRow base 92 2 (.slice (some ⟨g, 0, none⟩) n c) n ((L ++ (C ++ R)).flatMap c2)) ∧ Sd kM tM C ∧ C.Perm (x :: B) ∧ Below base w w' := by
  have hlen : a + 1 + B.length + R.length = n := by
    have := ho.1; rw [flat_len c2_len] at this; simp only [List.length_append, List.length_cons] at this; omega
  have hbw0 := fun {wr : World} (h : Below base w wr) => hbw0' hbs h
  have hg0 : base ≤ g := (ho.lt g rfl).1
  have HO := Lib.hid ho
  have HL := Lib.hid hL
  have HS := Lib.hid sB
  have HT := Lib.hid tg
  obtain ⟨q, hq⟩ : ∃ q, B.length = q := ⟨_, rfl⟩
  have HQ := Lib.hid hq
  rw [hq] at hb hlen
  have o1 : IntKind.i64.wrap ((m : Int) - (a : Int)) = 1 := by rw [IntWalk.i64_in _ (by omega)]; omega
  clear ho hL sB tg hq
  go_enter Try.func126, Try.ntmps126
  go_wp2_with fail
  clear o1
  go_loopw [10, 11] (fun i j wr => ∃ s t : Nat, i = .int .i64 (s : Int) ∧ j = .int .i64 (t : Int) ∧ m ≤ s ∧ s ≤ t ∧ t ≤ b ∧ Below base w wr ∧ Hid (wr.ownsRow base 92 2 (.slice (some ⟨g, 0, none⟩) n c) n ((L ++ (x :: (B ++ R))).flatMap c2)) ∧ Hid (s - m = 0 ∨ ∃ z, B[s - m - 1]? = some z ∧ kM z < kM x) ∧ Hid (t - m = B.length ∨ ∃ z, B[t - m]? = some z ∧ kM x ≤ kM z)) (fun i j _ => (intOf j).toNat - (intOf i).toNat)
  case atStart => exact ⟨m, b, rfl, rfl, by omega, by omega, Nat.le_refl _, Below.refl _ _, HO.out, .inl (by omega), .inl (by rw [HQ.out]; omega)⟩
  case round =>
    clear HO
    obtain ⟨s, t, rfl, rfl, hms, hst, htb, hbw, hO, h1, h2⟩ := hrel
    have hgw : g < wr.heap.size := (hO.out.lt g rfl).2
    by_cases hlt : s < t
    · obtain ⟨h, hh⟩ : ∃ h, (s + t) / 2 = h := ⟨_, rfl⟩
      have eh : ((s : Int) + (t : Int)) / 2 = (h : Int) := by omega
      obtain ⟨⟨z0, z1⟩, hz⟩ : ∃ z, B[h - m]? = some z := ⟨_, List.getElem?_eq_getElem (by rw [HQ.out]; omega)⟩
      have g1 : (L ++ (x :: (B ++ R)))[a]? = some x := get_cat HL.out
      have g2 : (L ++ (x :: (B ++ R)))[h]? = some (z0, z1) := by
        rw [List.getElem?_append_right (by rw [HL.out]; omega), HL.out, show h - a = h - m + 1 by omega, List.getElem?_cons_succ, List.getElem?_append_left (by rw [HQ.out]; omega)]; exact hz
      obtain ⟨p0, p1, pf0, pf1⟩ := own_at2 hO.out g1
      obtain ⟨q0, q1, qf0, qf1⟩ := own_at2 hO.out g2
      have HZ := Lib.hid hz
      obtain ⟨x0, x1⟩ := x
      simp only at p0 p1 q0 q1
      have i1 : (s : Int) < (t : Int) := by omega
      have i2 : (h : Int) < (n : Int) := by omega
      have i3 : (0 : Int) ≤ (h : Int) := by omega
      have i4 : (a : Int) < (n : Int) := by omega
      have i5 : (0 : Int) ≤ (a : Int) := by omega
      clear g1 g2 hz
      go_wp2_with fail
      try rw [eh]
      go_region_held3 (fun w' => (∀ b o, b < wr.heap.size → w'.cell? ⟨b, o, none⟩ = wr.cell? ⟨b, o, none⟩) ∧ Below wr.heap.size wr w') (first | exact sk (Below.refl _ _).drew | (go_split_ands; exact sk (below_app ‹_› hbw2 (Below.size ‹_›)))) (first | (go_at_call 96; with_reducible refine (cmpM_any z0 z1 x0 x1 _).mono ?_; rintro e w2 ⟨rfl, hbw2⟩))
      go_split_ands
      have hb2 : Below wr.heap.size wr w2 := ‹Below wr.heap.size wr w2›
      have hbb := hbw.trans (hb2.mono (hbw0 hbw))
      have HO2 := Lib.hid (own_below hO.out hb2)
      clear p0 p1 q0 q1 pf0 pf1 qf0 qf1
      by_cases hc : z1 < x1
      · rw [cmpV_lt1 hc]
        go_wp2
        exact ⟨⟨h + 1, t, by go_num, rfl, by omega, by omega, htb, hbb, HO2.out, .inr ⟨(z0, z1), by rw [show h + 1 - m - 1 = h - m by omega]; exact HZ.out, hc⟩, h2⟩, by simp [intOf]; omega⟩
      · have hc9 : x1 ≤ z1 := by omega
        rcases cmpV_ge1 hc with hv | hv
        all_goals
          rw [hv]
          go_wp2
          exact ⟨⟨s, h, rfl, rfl, hms, by omega, by omega, hbb, HO2.out, h1, .inr ⟨(z0, z1), HZ.out, hc9⟩⟩, by simp [intOf]; omega⟩
    · have hst2 : s = t := by omega
      subst hst2
      have HC := Lib.hid (sd_one HS.out HT.out (by rw [HQ.out]; omega) h1.out (h2.out.imp_right fun ⟨z, e1, e2⟩ => ⟨z, e1, by omega⟩))
      have HBU : Hid (wr.ownsRow base 92 2 (.slice (some ⟨g, 0, none⟩) n c) n ((bubR L x B R 0).flatMap c2)) := by show World.ownsRow _ _ _ _ _ _ _; simpa [bubR] using hO.out
      have o2 : IntKind.i64.wrap ((s : Int) - 1) = ((s - 1 : Nat) : Int) := by rw [IntWalk.i64_in _ (by omega)]; omega
      clear h1 h2 hO
      obtain ⟨wo, rfl⟩ : ∃ W, W = wr := ⟨_, rfl⟩
      go_wp2_with fail
      go_loopw [13] (fun i wr => ∃ k u : Nat, i = .int .i64 (k : Int) ∧ a + u = k ∧ u ≤ s - m ∧ Below base w wr ∧ Hid (wr.ownsRow base 92 2 (.slice (some ⟨g, 0, none⟩) n c) n ((bubR L x B R u).flatMap c2))) (fun i _ => s - (intOf i).toNat)
      case atStart => exact ⟨a, 0, rfl, rfl, by omega, hbw, HBU.out⟩
      case round =>
        clear HBU hbw
        obtain ⟨k, u, rfl, hku, hus, hbw, hO⟩ := hrel
        by_cases hlu : u < s - m
        · obtain ⟨⟨y0, y1⟩, hy⟩ : ∃ y, B[u]? = some y := ⟨_, List.getElem?_eq_getElem (by rw [HQ.out]; omega)⟩
          obtain ⟨e1, e2, e3⟩ := bubR_at (x := x) (R := R) HL.out hy
          rw [hku] at e1 e2 e3
          have S3 := Lib.hid e3
          obtain ⟨j, hj⟩ : ∃ j, k + 1 = j := ⟨_, rfl⟩
          rw [hj] at e2 S3
          obtain ⟨p0, p1, pf0, pf1⟩ := own_at2 hO.out e1
          obtain ⟨q0, q1, qf0, qf1⟩ := own_at2 hO.out e2
          obtain ⟨x0, x1⟩ := x
          simp only at p0 p1 q0 q1
          have hgw : g < wr.heap.size := (hO.out.lt g rfl).2
          have n1 : ¬ k * 2 = j * 2 := by omega
          have n2 : ¬ k * 2 = j * 2 + 1 := by omega
          have n3 : ¬ k * 2 + 1 = j * 2 := by omega
          have n4 : ¬ k * 2 + 1 = j * 2 + 1 := by omega
          have n5 : ¬ j * 2 = k * 2 := by omega
          have n6 : ¬ j * 2 = k * 2 + 1 := by omega
          have n7 : ¬ j * 2 + 1 = k * 2 := by omega
          have n8 : ¬ j * 2 + 1 = k * 2 + 1 := by omega
          have i3 : (k : Int) < (n : Int) := by omega
          have i4 : (j : Int) < (n : Int) := by omega
          have i5 : (0 : Int) ≤ (k : Int) := by omega
          have i6 : (0 : Int) ≤ (j : Int) := by omega
          have hll : Hid ((bubR L (x0, x1) B R u).length = n) := by show _ = _; have := hO.out.1; rw [flat_len c2_len] at this; omega
          have o3 : IntKind.i64.wrap ((k : Int) + 1) = (j : Int) := by rw [IntWalk.i64_in _ (by omega)]; omega
          have i1 : (k : Int) < ((s - 1 : Nat) : Int) := by omega
          clear e1 e2 e3 hy
          go_wp2_with fail
          go_region
          go_wp2
          have h9 := putS2 (putS2 hO.out (i := k) (by rw [hll.out]; omega) (y0, y1)) (i := j) (by rw [List.length_set, hll.out]; omega) (x0, x1)
          rw [S3.out] at h9
          exact ⟨⟨j, u + 1, rfl, by omega, by omega, (by repeat (first | exact Below.refl _ _ | assumption | refine Below.drew ?_ | refine below_drewN ?_ _ | refine Below.alloc ?_ (by first | omega | (simp <;> omega)) _ | refine Below.setCell ?_ (by first | omega | (simp <;> omega)) _)), h9⟩, by simp [intOf]; omega⟩
        · have hue : u = s - m := by omega
          have i1 : ¬ (k : Int) < ((s - 1 : Nat) : Int) := by omega
          have i1d : decide ((k : Int) < ((s - 1 : Nat) : Int)) = false := decide_eq_false i1
          rw [hue] at hO
          go_wp2
          refine bodyPost_ret (v := .tuple #[]) (by simp [results, Try.results126, go_sem]) rfl ⟨rfl, B.take (s - m) ++ x :: B.drop (s - m), ?_, ?_, ?_, ?_⟩
          · have h9 := hO.out; unfold bubR at h9; rw [show L ++ (B.take (s - m) ++ x :: (B.drop (s - m) ++ R)) = L ++ ((B.take (s - m) ++ x :: B.drop (s - m)) ++ R) by simp] at h9; show World.ownsRow _ _ _ _ _ _ _; simpa using h9
          · exact HC.out
          · refine List.perm_middle.trans ?_; rw [List.take_append_drop]
          · exact hbw
set_option maxRecDepth 100000 in
set_option maxHeartbeats 8000000 in
theorem sm2_any (g n c base a m b : Nat) (L A : List T2) (y : T2) (R : List T2) (w : World) (ho : w.ownsRow base 92 2 (.slice (some ⟨g, 0, none⟩) n c) n ((L ++ (A ++ (y :: R))).flatMap c2)) (hL : L.length = a) (hm : a + A.length = m) (hb : m + 1 = b) (h1 : A.length ≠ 1) (sA : Sd kM tM A) (tg : Tg tM A [y]) (hn : n ≤ 1000) (hbs : base ≤ w.heap.size) :
    Calls Try.prog 126 #[.slice (some ⟨g, 0, none⟩) n c, .int .i64 (a : Int), .int .i64 (m : Int), .int .i64 (b : Int), .func (.func 96) #[] #[]] w fun e w' => e = .returned (.tuple #[]) ∧ ∃ C, Hid (w'.ownsRow base 92 2 (.slice (some ⟨g, 0, none⟩) n c) n ((L ++ (C ++ R)).flatMap c2)) ∧ Sd kM tM C ∧ C.Perm (A ++ [y]) ∧ Below base w w' := by
  have hlen : a + A.length + 1 + R.length = n := by
    have := ho.1; rw [flat_len c2_len] at this; simp only [List.length_append, List.length_cons] at this; omega
  have hbw0 := fun {wr : World} (h : Below base w wr) => hbw0' hbs h
  have hg0 : base ≤ g := (ho.lt g rfl).1
  have HO := Lib.hid ho
  have HL := Lib.hid hL
  have HS := Lib.hid sA
  have HT := Lib.hid tg
  obtain ⟨p, hp⟩ : ∃ p, A.length = p := ⟨_, rfl⟩
  have HPL := Lib.hid hp
  rw [hp] at hm hlen h1
  have o1 : IntKind.i64.wrap ((m : Int) - (a : Int)) = (p : Int) := by rw [IntWalk.i64_in _ (by omega)]; omega
  have o1b : ((p : Int) == 1) = false := by simp; omega
  have o1c : ¬ (p : Int) = 1 := by omega
  have o1d : IntKind.i64.wrap ((b : Int) - (m : Int)) = 1 := by rw [IntWalk.i64_in _ (by omega)]; omega
  clear ho hL sA tg hp
  go_enter Try.func126, Try.ntmps126
  go_wp2_with fail
  clear o1 o1b o1c o1d
  go_loopw [14, 15] (fun i j wr => ∃ s t : Nat, i = .int .i64 (s : Int) ∧ j = .int .i64 (t : Int) ∧ a ≤ s ∧ s ≤ t ∧ t ≤ m ∧ Below base w wr ∧ Hid (wr.ownsRow base 92 2 (.slice (some ⟨g, 0, none⟩) n c) n ((L ++ (A ++ (y :: R))).flatMap c2)) ∧ Hid (s - a = 0 ∨ ∃ z, A[s - a - 1]? = some z ∧ kM z ≤ kM y) ∧ Hid (t - a = A.length ∨ ∃ z, A[t - a]? = some z ∧ kM y < kM z)) (fun i j _ => (intOf j).toNat - (intOf i).toNat)
  case atStart => exact ⟨a, m, rfl, rfl, by omega, by omega, Nat.le_refl _, Below.refl _ _, HO.out, .inl (by omega), .inl (by rw [HPL.out]; omega)⟩
  case round =>
    clear HO
    obtain ⟨s, t, rfl, rfl, hms, hst, htb, hbw, hO, h1', h2⟩ := hrel
    have hgw : g < wr.heap.size := (hO.out.lt g rfl).2
    by_cases hlt : s < t
    · obtain ⟨h, hh⟩ : ∃ h, (s + t) / 2 = h := ⟨_, rfl⟩
      have eh : ((s : Int) + (t : Int)) / 2 = (h : Int) := by omega
      obtain ⟨⟨z0, z1⟩, hz⟩ : ∃ z, A[h - a]? = some z := ⟨_, List.getElem?_eq_getElem (by rw [HPL.out]; omega)⟩
      have g1 : (L ++ (A ++ (y :: R)))[m]? = some y := by rw [← List.append_assoc]; exact get_cat (by rw [List.length_append, HL.out, HPL.out]; omega)
      have g2 : (L ++ (A ++ (y :: R)))[h]? = some (z0, z1) := by
        rw [List.getElem?_append_right (by rw [HL.out]; omega), HL.out, List.getElem?_append_left (by rw [HPL.out]; omega)]; exact hz
      obtain ⟨p0, p1, pf0, pf1⟩ := own_at2 hO.out g1
      obtain ⟨q0, q1, qf0, qf1⟩ := own_at2 hO.out g2
      have HZ := Lib.hid hz
      obtain ⟨x0, x1⟩ := y
      simp only at p0 p1 q0 q1
      have i1 : (s : Int) < (t : Int) := by omega
      have i2 : (h : Int) < (n : Int) := by omega
      have i3 : (0 : Int) ≤ (h : Int) := by omega
      have i4 : (m : Int) < (n : Int) := by omega
      have i5 : (0 : Int) ≤ (m : Int) := by omega
      clear g1 g2 hz
      go_wp2_with fail
      try rw [eh]
      go_region_held3 (fun w' => (∀ b o, b < wr.heap.size → w'.cell? ⟨b, o, none⟩ = wr.cell? ⟨b, o, none⟩) ∧ Below wr.heap.size wr w') (first | exact sk (Below.refl _ _).drew | (go_split_ands; exact sk (below_app ‹_› hbw2 (Below.size ‹_›)))) (first | (go_at_call 96; with_reducible refine (cmpM_any x0 x1 z0 z1 _).mono ?_; rintro e w2 ⟨rfl, hbw2⟩))
      go_split_ands
      have hb2 : Below wr.heap.size wr w2 := ‹Below wr.heap.size wr w2›
      have hbb := hbw.trans (hb2.mono (hbw0 hbw))
      have HO2 := Lib.hid (own_below hO.out hb2)
      clear p0 p1 q0 q1 pf0 pf1 qf0 qf1
      by_cases hc : x1 < z1
      · rw [cmpV_lt1 hc]
        go_wp2
        exact ⟨⟨s, h, rfl, rfl, hms, by omega, by omega, hbb, HO2.out, h1', .inr ⟨(z0, z1), HZ.out, hc⟩⟩, by simp [intOf]; omega⟩
      · have hc9 : z1 ≤ x1 := by omega
        rcases cmpV_ge1 hc with hv | hv
        all_goals
          rw [hv]
          go_wp2
          exact ⟨⟨h + 1, t, by go_num, rfl, by omega, by omega, htb, hbb, HO2.out, .inr ⟨(z0, z1), by rw [show h + 1 - a - 1 = h - a by omega]; exact HZ.out, hc9⟩, h2⟩, by simp [intOf]; omega⟩
    · have hst2 : s = t := by omega
      subst hst2
      have HC := Lib.hid (sd_one' HS.out HT.out (by rw [HPL.out]; omega) (h1'.out.imp_right fun ⟨z, e1, e2⟩ => ⟨z, e1, by omega⟩) h2.out)
      have HBU : Hid (wr.ownsRow base 92 2 (.slice (some ⟨g, 0, none⟩) n c) n ((bubR L y A R p).flatMap c2)) := by show World.ownsRow _ _ _ _ _ _ _; have h9 := hO.out; unfold bubR; rw [List.take_of_length_le (by rw [HPL.out]; exact Nat.le_refl _), List.drop_of_length_le (by rw [HPL.out]; exact Nat.le_refl _), List.nil_append]; exact h9
      clear h1' h2 hO
      obtain ⟨wo, rfl⟩ : ∃ W, W = wr := ⟨_, rfl⟩
      go_wp2_with fail
      go_loopw [17] (fun i wr => ∃ k u : Nat, i = .int .i64 (k : Int) ∧ a + u = k ∧ s - a ≤ u ∧ u ≤ p ∧ Below base w wr ∧ Hid (wr.ownsRow base 92 2 (.slice (some ⟨g, 0, none⟩) n c) n ((bubR L y A R u).flatMap c2))) (fun i _ => (intOf i).toNat)
      case atStart => exact ⟨m, p, rfl, by omega, by omega, Nat.le_refl _, hbw, HBU.out⟩
      case round =>
        clear HBU hbw
        obtain ⟨k, u, rfl, hku, hus, hup, hbw, hO⟩ := hrel
        by_cases hlu : s - a < u
        · obtain ⟨v, rfl⟩ : ∃ v, u = v + 1 := ⟨u - 1, by omega⟩
          obtain ⟨⟨y0, y1⟩, hy⟩ : ∃ y, A[v]? = some y := ⟨_, List.getElem?_eq_getElem (by rw [HPL.out]; omega)⟩
          obtain ⟨e1, e2, e3⟩ := bubL_at (y := y) (R := R) HL.out hy
          obtain ⟨j, hj⟩ : ∃ j, a + v = j := ⟨_, rfl⟩
          rw [show a + v + 1 = k by omega] at e1 e3
          rw [hj] at e2 e3
          have S3 := Lib.hid e3
          obtain ⟨p0, p1, pf0, pf1⟩ := own_at2 hO.out e1
          obtain ⟨q0, q1, qf0, qf1⟩ := own_at2 hO.out e2
          obtain ⟨x0, x1⟩ := y
          simp only at p0 p1 q0 q1
          have hgw : g < wr.heap.size := (hO.out.lt g rfl).2
          have n1 : ¬ j * 2 = k * 2 := by omega
          have n2 : ¬ j * 2 = k * 2 + 1 := by omega
          have n3 : ¬ j * 2 + 1 = k * 2 := by omega
          have n4 : ¬ j * 2 + 1 = k * 2 + 1 := by omega
          have n5 : ¬ k * 2 = j * 2 := by omega
          have n6 : ¬ k * 2 = j * 2 + 1 := by omega
          have n7 : ¬ k * 2 + 1 = j * 2 := by omega
          have n8 : ¬ k * 2 + 1 = j * 2 + 1 := by omega
          have i3 : (j : Int) < (n : Int) := by omega
          have i4 : (k : Int) < (n : Int) := by omega
          have i5 : (0 : Int) ≤ (j : Int) := by omega
          have i6 : (0 : Int) ≤ (k : Int) := by omega
          have hll : Hid ((bubR L (x0, x1) A R (v + 1)).length = n) := by show _ = _; have := hO.out.1; rw [flat_len c2_len] at this; omega
          have o3 : IntKind.i64.wrap ((k : Int) - 1) = (j : Int) := by rw [IntWalk.i64_in _ (by omega)]; omega
          have i1 : (s : Int) < (k : Int) := by omega
          clear e1 e2 e3 hy
          go_wp2_with fail
          go_region
          go_wp2
          have h9 := putS2 (putS2 hO.out (i := k) (by rw [hll.out]; omega) (y0, y1)) (i := j) (by rw [List.length_set, hll.out]; omega) (x0, x1)
          rw [S3.out] at h9
          exact ⟨⟨j, v, rfl, by omega, by omega, by omega, (by repeat (first | exact Below.refl _ _ | assumption | refine Below.drew ?_ | refine below_drewN ?_ _ | refine Below.alloc ?_ (by first | omega | (simp <;> omega)) _ | refine Below.setCell ?_ (by first | omega | (simp <;> omega)) _)), h9⟩, by simp [intOf]; omega⟩
        · have hue : u = s - a := by omega
          have i1 : ¬ (s : Int) < (k : Int) := by omega
          have i1d : decide ((s : Int) < (k : Int)) = false := decide_eq_false i1
          rw [hue] at hO
          go_wp2
          refine bodyPost_ret (v := .tuple #[]) (by simp [results, Try.results126, go_sem]) rfl ⟨rfl, A.take (s - a) ++ y :: A.drop (s - a), ?_, ?_, ?_, ?_⟩
          · have h9 := hO.out; unfold bubR at h9; rw [show L ++ (A.take (s - a) ++ y :: (A.drop (s - a) ++ R)) = L ++ ((A.take (s - a) ++ y :: A.drop (s - a)) ++ R) by simp] at h9; show World.ownsRow _ _ _ _ _ _ _; simpa using h9
          · exact HC.out
          · refine List.perm_middle.trans ?_; rw [List.take_append_drop]; exact List.perm_append_comm (l₁ := [y]) (l₂ := A)
          · exact hbw
end Go.Proofs.Ytkldejbhhbgefaa
