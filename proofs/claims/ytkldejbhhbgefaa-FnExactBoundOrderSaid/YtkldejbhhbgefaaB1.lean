/- slices.SortStableFunc over numbers of lists: ranges, merges of one. -/
import Derived.Test.YtkldejbhhbgefaaSx
import Derived.Deep.Cut
import Derived.Deep.CutRange
import Derived.Deep.RegionHeld3
import Derived.IntWalk
namespace Go.Proofs.Ytkldejbhhbgefaa
open Go.ChangeShapes Go.WideShapes Go.ChangeAt Go.RowKit
set_option linter.unusedVariables false
set_option linter.unusedSimpArgs false
/-- A list's number, below the number of the lists: one cell. -/
def cO {lb : Nat} (x : Fin lb) : List Value := [.int .i64 (x.val : Int)]
theorem cO_len {lb : Nat} (x : Fin lb) : (cO x).length = 1 := rfl
def kyO (bs : List Int) {lb : Nat} (x : Fin lb) : Int := bs.getD x.val 0
def tgO {lb : Nat} (x : Fin lb) : Int := (x.val : Int)
/-- The bounds, in a variable that the comparison holds. -/
def BOk (w : World) (base gp gb lb cb : Nat) (bs : List Int) : Prop := gp < base ∧ base ≤ w.heap.size ∧ w.cell? ⟨gp, 0, none⟩ = some (.slice (some ⟨gb, 0, none⟩) lb cb) ∧ RdL c1 1 w base (some ⟨gb, 0, none⟩) lb cb bs
theorem BOk.below {w w' : World} {base gp gb lb cb : Nat} {bs : List Int} (h : BOk w base gp gb lb cb bs) {B : Nat} (hb : Below B w w') (hB : base ≤ B := by first | exact Nat.le_refl _ | assumption | omega) : BOk w' base gp gb lb cb bs := by
  obtain ⟨h1, h2, h3, h4⟩ := h
  exact ⟨h1, Nat.le_trans h2 hb.size, (hb.cell (p := ⟨gp, 0, none⟩) (Nat.lt_of_lt_of_le h1 hB)).trans h3, h4.below (hb.mono hB)⟩
theorem putSO {lb : Nat} {w : World} {base g n c i : Nat} {e : TypeId} {xs : List (Fin lb)} (h : w.ownsRow base e 1 (.slice (some ⟨g, 0, none⟩) n c) n (xs.flatMap cO)) (hi : i < xs.length) (p : Fin lb) :
    (w.setCell ⟨g, i, none⟩ (.int .i64 (p.val : Int))).ownsRow base e 1 (.slice (some ⟨g, 0, none⟩) n c) n ((xs.set i p).flatMap cO) := by
  have h1 := (h.stored i (.int .i64 (p.val : Int))).1
  have hx : xs = xs.take i ++ xs[i] :: xs.drop (i + 1) := by rw [List.getElem_cons_drop, List.take_append_drop]
  have hl : (xs.take i).length = i := by rw [List.length_take]; omega
  have e1 : (xs.flatMap cO).set i (.int .i64 (p.val : Int)) = (xs.set i p).flatMap cO := by
    have e2 : xs.set i p = xs.take i ++ p :: xs.drop (i + 1) := by rw [List.set_eq_take_append_cons_drop, if_pos hi]
    rw [e2]
    conv => lhs; rw [hx]
    rw [List.flatMap_append, List.flatMap_cons, List.flatMap_append, List.flatMap_cons]
    have hf : ((xs.take i).flatMap cO).length = i := by rw [flat_len cO_len, hl, Nat.mul_one]
    rw [List.set_append_right _ _ (by omega), show i - ((xs.take i).flatMap cO).length = 0 by omega]
    rfl
  rw [e1] at h1
  exact h1
theorem own_atO {lb : Nat} {w : World} {base g n c i : Nat} {e : TypeId} {xs : List (Fin lb)} {x : Fin lb} (h : w.ownsRow base e 1 (.slice (some ⟨g, 0, none⟩) n c) n (xs.flatMap cO)) (hx : xs[i]? = some x) :
    w.cell? ⟨g, i, none⟩ = some (.int .i64 (x.val : Int)) ∧ w.frozen? ⟨g, i, none⟩ = false := by
  have hi := (List.getElem?_eq_some_iff.1 hx).1
  have hn : xs.length * 1 = n * 1 := by have := h.1; rw [flat_len cO_len] at this; exact this
  refine ⟨?_, h.frozenAt _⟩
  have h9 := h.cellAt (i * 1 + 0) (by omega)
  rw [flat_get cO_len xs i 0 x hx (by omega)] at h9
  simpa [cO] using h9
theorem cmpB_any {lb gp gb cb base : Nat} {bs : List Int} (x y : Fin lb) (w : World) (h : BOk w base gp gb lb cb bs) : Calls Try.prog 54 #[.int .i64 (x.val : Int), .int .i64 (y.val : Int), .pointer (some ⟨gp, 0, none⟩)] w fun e w' => e = .returned (.int .i64 (cmpV (kyO bs x) (kyO bs y))) ∧ Below w.heap.size w w' := by
  obtain ⟨h1, h2, h3, h4⟩ := h
  obtain ⟨b, off, u, hb, hlt, hu, q0⟩ := h4.at1 x.isLt
  cases hb
  obtain ⟨b, off, v, hb, hlt2, hv, q1⟩ := h4.at1 y.isLt
  cases hb
  have HU : Hid (kyO bs x = u) := by show _ = _; unfold kyO; exact getD_of hu.out
  have HV : Hid (kyO bs y = v) := by show _ = _; unfold kyO; exact getD_of hv.out
  rw [HU.out, HV.out]
  obtain ⟨i, hi⟩ := x
  obtain ⟨j, hj⟩ := y
  simp only at q0 q1
  have hgp : gp < w.heap.size := Nat.lt_of_lt_of_le h1 h2
  have hgb : gb < w.heap.size := Nat.lt_of_lt_of_le hlt h2
  have i1 : (i : Int) < (lb : Int) := by omega
  have i2 : (0 : Int) ≤ (i : Int) := by omega
  have i3 : (j : Int) < (lb : Int) := by omega
  have i4 : (0 : Int) ≤ (j : Int) := by omega
  rw [Nat.zero_add] at q0 q1
  clear h4 hu hv HU HV
  go_enter Try.func54, Try.ntmps54
  go_wp2_with fail
  go_region_held3 (fun w' => (∀ b o, b < w.heap.size → w'.cell? ⟨b, o, none⟩ = w.cell? ⟨b, o, none⟩) ∧ Below w.heap.size w w') (first | exact sk (Below.refl _ _).drew | (go_split_ands; exact sk ‹_›)) (first | (go_at_call 55; with_reducible refine (compare_any _ _ _).mono ?_; rintro e w3 ⟨rfl, rfl⟩))
  go_wp2
  go_ret
  exact ⟨rfl, (by repeat (first | exact Below.refl _ _ | assumption | refine Below.drew ?_ | refine below_drewN ?_ _ | refine Below.alloc ?_ (by first | omega | (simp <;> omega)) _ | refine Below.setCell ?_ (by first | omega | (simp <;> omega)) _))⟩
set_option maxRecDepth 100000 in
set_option maxHeartbeats 8000000 in
theorem swapRangeO_any {lb : Nat} (g n c base k a b : Nat) (F : Value) (L A M B R : List (Fin lb)) (w : World) (ho : w.ownsRow base 2 1 (.slice (some ⟨g, 0, none⟩) n c) n ((L ++ (A ++ (M ++ (B ++ R)))).flatMap cO)) (hL : L.length = a) (hA : A.length = k) (hB : B.length = k) (hb : a + k + M.length = b) (hn : n ≤ 1000) :
    Calls Try.prog 129 #[.slice (some ⟨g, 0, none⟩) n c, .int .i64 (a : Int), .int .i64 (b : Int), .int .i64 (k : Int), F] w fun e w' => e = .returned (.tuple #[]) ∧
      w'.ownsRow base 2 1 (.slice (some ⟨g, 0, none⟩) n c) n ((L ++ (B ++ (M ++ (A ++ R)))).flatMap cO) ∧ Below base w w' := by
  have hlen : a + k + M.length + k + R.length = n := by
    have := ho.1; rw [flat_len cO_len] at this; simp only [List.length_append] at this; omega
  have hg := (ho.lt g rfl)
  have HS : Hid (w.ownsRow base 2 1 (.slice (some ⟨g, 0, none⟩) n c) n ((swR L A M B R 0).flatMap cO)) := by show World.ownsRow _ _ _ _ _ _ _; rw [swR_zero]; exact ho
  have HE : Hid (swR L A M B R k = L ++ (B ++ (M ++ (A ++ R)))) := swR_all hA hB
  have HL := Lib.hid hL
  have HA := Lib.hid hA
  have HB := Lib.hid hB
  clear ho hL hA hB
  go_enter Try.func129, Try.ntmps129
  go_wp2_with fail
  go_loopw [10] (fun i wr => ∃ t : Nat, t ≤ k ∧ i = .int .i64 t ∧ Below base w wr ∧ Hid (wr.ownsRow base 2 1 (.slice (some ⟨g, 0, none⟩) n c) n ((swR L A M B R t).flatMap cO))) (fun i _ => k - (intOf i).toNat)
  case atStart => exact ⟨0, by omega, rfl, Below.refl _ _, HS.out⟩
  case round =>
    obtain ⟨t, ht, rfl, hbw, hO⟩ := hrel
    by_cases hlt : t < k
    · obtain ⟨x, hx⟩ : ∃ x, A[t]? = some x := ⟨_, List.getElem?_eq_getElem (by rw [HA.out]; exact hlt)⟩
      obtain ⟨y, hy⟩ : ∃ y, B[t]? = some y := ⟨_, List.getElem?_eq_getElem (by rw [HB.out]; exact hlt)⟩
      obtain ⟨s1, s2, s3⟩ := swR_at (R := R) hx hy HL.out HA.out HB.out hb
      obtain ⟨i, hi⟩ : ∃ i, a + t = i := ⟨_, rfl⟩
      obtain ⟨j, hj⟩ : ∃ j, b + t = j := ⟨_, rfl⟩
      rw [hi] at s1 s3
      rw [hj] at s2 s3
      have S3 := Lib.hid s3
      have hin : i < n := by omega
      have hjn : j < n := by omega
      have hij : i < j := by omega
      obtain ⟨q0, f0⟩ := own_atO hO.out s1
      obtain ⟨r0, g0⟩ := own_atO hO.out s2
      have hll : Hid ((swR L A M B R t).length = n) := by show _ = _; have := hO.out.1; rw [flat_len cO_len] at this; omega
      obtain ⟨x0, rfl⟩ : ∃ X, X = x := ⟨_, rfl⟩
      obtain ⟨y0, rfl⟩ : ∃ X, X = y := ⟨_, rfl⟩
      have o1 : IntKind.i64.wrap ((a : Int) + (t : Int)) = (i : Int) := by rw [IntWalk.i64_in _ (by omega)]; omega
      have o2 : IntKind.i64.wrap ((b : Int) + (t : Int)) = (j : Int) := by rw [IntWalk.i64_in _ (by omega)]; omega
      have i1 : (t : Int) < (k : Int) := by omega
      have i2 : (0 : Int) ≤ (t : Int) := by omega
      have i3 : (i : Int) < (n : Int) := by omega
      have i4 : (j : Int) < (n : Int) := by omega
      have i5 : (0 : Int) ≤ (i : Int) := by omega
      have i6 : (0 : Int) ≤ (j : Int) := by omega
      have hgw : g < wr.heap.size := (hO.out.lt g rfl).2
      have n1 : ¬ i = j := by omega
      have n5 : ¬ j = i := by omega
      clear hi hj hx hy s1 s2 s3
      go_wp2_with fail
      go_region
      go_wp2
      have h9 := putSO (putSO hO.out (i := i) (by rw [hll.out]; exact hin) y0) (i := j) (by rw [List.length_set, hll.out]; exact hjn) x0
      rw [S3.out] at h9
      exact ⟨⟨t + 1, by omega, by go_num, (by repeat (first | exact Below.refl _ _ | assumption | refine Below.drew ?_ | refine below_drewN ?_ _ | refine Below.alloc ?_ (by first | omega | (simp <;> omega)) _ | refine Below.setCell ?_ (by first | omega | (simp <;> omega)) _)), h9⟩, by simp [intOf]; omega⟩
    · have htk : t = k := by omega
      subst htk
      go_wp2
      exact bodyPost_end (v := .tuple #[]) (by simp [results, Try.results129, go_sem]) rfl ⟨rfl, by rw [← HE.out]; exact hO.out, hbw⟩
set_option maxRecDepth 100000 in
set_option maxHeartbeats 8000000 in
theorem rotateO_any {lb : Nat} (g n c base a m b : Nat) (F : Value) (L A B R : List (Fin lb)) (w : World) (ho : w.ownsRow base 2 1 (.slice (some ⟨g, 0, none⟩) n c) n ((L ++ (A ++ (B ++ R))).flatMap cO)) (hL : L.length = a) (hA : a + A.length = m) (hB : m + B.length = b) (hA0 : 0 < A.length) (hB0 : 0 < B.length) (hn : n ≤ 1000) :
    Calls Try.prog 121 #[.slice (some ⟨g, 0, none⟩) n c, .int .i64 (a : Int), .int .i64 (m : Int), .int .i64 (b : Int), F] w fun e w' => e = .returned (.tuple #[]) ∧
      w'.ownsRow base 2 1 (.slice (some ⟨g, 0, none⟩) n c) n ((L ++ (B ++ (A ++ R))).flatMap cO) ∧ Below base w w' := by
  have hlen : a + A.length + B.length + R.length = n := by
    have := ho.1; rw [flat_len cO_len] at this; simp only [List.length_append] at this; omega
  have HO := Lib.hid ho
  obtain ⟨p, hp⟩ : ∃ p, A.length = p := ⟨_, rfl⟩
  obtain ⟨q, hq⟩ : ∃ q, B.length = q := ⟨_, rfl⟩
  have HI : Hid (∃ (L' X Y R' : List (Fin lb)), w.ownsRow base 2 1 (.slice (some ⟨g, 0, none⟩) n c) n ((L' ++ (X ++ (Y ++ R'))).flatMap cO) ∧ L'.length + p = m ∧ X.length = p ∧ Y.length = q ∧ L' ++ (Y ++ (X ++ R')) = L ++ (B ++ (A ++ R))) := ⟨L, A, B, R, ho, by omega, hp, hq, rfl⟩
  have o1 : IntKind.i64.wrap ((m : Int) - (a : Int)) = (p : Int) := by rw [IntWalk.i64_in _ (by omega)]; omega
  have o2 : IntKind.i64.wrap ((b : Int) - (m : Int)) = (q : Int) := by rw [IntWalk.i64_in _ (by omega)]; omega
  rw [hp] at hA0
  rw [hq] at hB0
  have hpm : p ≤ m := by omega
  have hmq : m + q ≤ n := by omega
  clear ho hp hq hL hA hB
  go_enter Try.func121, Try.ntmps121
  go_wp2_with fail
  clear o1 o2
  go_loopw [10, 11] (fun i j wr => ∃ p' q' : Nat, i = .int .i64 p' ∧ j = .int .i64 q' ∧ 0 < p' ∧ 0 < q' ∧ p' ≤ m ∧ m + q' ≤ n ∧ Below base w wr ∧ Hid (∃ (L' X Y R' : List (Fin lb)), wr.ownsRow base 2 1 (.slice (some ⟨g, 0, none⟩) n c) n ((L' ++ (X ++ (Y ++ R'))).flatMap cO) ∧ L'.length + p' = m ∧ X.length = p' ∧ Y.length = q' ∧ L' ++ (Y ++ (X ++ R')) = L ++ (B ++ (A ++ R)))) (fun i j _ => (intOf i).toNat + (intOf j).toNat)
  case atStart => exact ⟨p, q, rfl, rfl, hA0, hB0, hpm, hmq, Below.refl _ _, HI.out⟩
  case round =>
    clear HI hA0 hB0 hpm hmq HO
    obtain ⟨p, q, rfl, rfl, hp0, hq0, hpm, hmq, hbw, hI⟩ := hrel
    obtain ⟨L', X, Y, R', hO, e1, e2, e3, e4⟩ := hI.out
    have HO := Lib.hid hO
    have HE := Lib.hid e4
    have HX := Lib.hid e2
    have HY := Lib.hid e3
    have o1 : IntKind.i64.wrap ((m : Int) - (p : Int)) = ((m - p : Nat) : Int) := by rw [IntWalk.i64_in _ (by omega)]; omega
    clear hO e2 e3 e4 hI
    by_cases hpq : p = q
    · subst hpq
      go_wp2_with fail
      with_reducible refine (swapRangeO_any g n c base p (m - p) m F L' X [] Y R' _ HO.out (by omega) HX.out HY.out (by simp; omega) hn).mono ?_
      rintro e w2 ⟨rfl, ho2, hb2⟩
      have O2 := Lib.hid ho2
      have hb3 := hbw.trans hb2
      clear ho2 hb2
      go_wp2
      exact bodyPost_end (v := .tuple #[]) (by simp [results, Try.results121, go_sem]) rfl ⟨rfl, by rw [← HE.out]; exact O2.out, hb3⟩
    · have hne : ¬ (p : Int) = (q : Int) := by omega
      have hneb : ((p : Int) == (q : Int)) = false := by simp; omega
      by_cases hgt : q < p
      · have i1 : (q : Int) < (p : Int) := by omega
        have o2 : IntKind.i64.wrap ((p : Int) - (q : Int)) = ((p - q : Nat) : Int) := by rw [IntWalk.i64_in _ (by omega)]; omega
        have HO' : Hid (wr.ownsRow base 2 1 (.slice (some ⟨g, 0, none⟩) n c) n ((L' ++ (X.take q ++ (X.drop q ++ (Y ++ R')))).flatMap cO)) := by show World.ownsRow _ _ _ _ _ _ _; rw [← List.append_assoc (X.take q), List.take_append_drop]; exact HO.out
        go_wp2_with fail
        with_reducible refine (swapRangeO_any g n c base q (m - p) m F L' (X.take q) (X.drop q) Y R' _ HO'.out (by omega) (by rw [List.length_take, HX.out]; omega) HY.out (by rw [List.length_drop, HX.out]; omega) hn).mono ?_
        rintro e w2 ⟨rfl, ho2, hb2⟩
        have O2 := Lib.hid ho2
        have hb3 := hbw.trans hb2
        clear ho2 hb2
        go_wp2
        refine ⟨⟨p - q, q, by go_num, rfl, by omega, by omega, by omega, by omega, hb3, L' ++ Y, X.drop q, X.take q, R', ?_, ?_, ?_, ?_, ?_⟩, by simp [intOf]; omega⟩
        · have h9 := O2.out; rw [List.append_assoc]; exact h9
        · rw [List.length_append, HY.out]; omega
        · rw [List.length_drop, HX.out]
        · rw [List.length_take, HX.out]; omega
        · rw [← HE.out, List.append_assoc, ← List.append_assoc (X.take q), List.take_append_drop]
      · have i1 : ¬ (q : Int) < (p : Int) := by omega
        have i1d : decide ((q : Int) < (p : Int)) = false := decide_eq_false i1
        have o2 : IntKind.i64.wrap ((q : Int) - (p : Int)) = ((q - p : Nat) : Int) := by rw [IntWalk.i64_in _ (by omega)]; omega
        have o3 : IntKind.i64.wrap ((m : Int) + (q : Int)) = ((m + q : Nat) : Int) := by rw [IntWalk.i64_in _ (by omega)]; omega
        have o4 : IntKind.i64.wrap (((m + q : Nat) : Int) - (p : Int)) = ((m + q - p : Nat) : Int) := by rw [IntWalk.i64_in _ (by omega)]; omega
        have o5 : IntKind.i64.wrap ((m : Int) + (q : Int) - (p : Int)) = ((m + q - p : Nat) : Int) := by rw [IntWalk.i64_in _ (by omega)]; omega
        have HO' : Hid (wr.ownsRow base 2 1 (.slice (some ⟨g, 0, none⟩) n c) n ((L' ++ (X ++ (Y.take (q - p) ++ (Y.drop (q - p) ++ R')))).flatMap cO)) := by show World.ownsRow _ _ _ _ _ _ _; rw [← List.append_assoc (Y.take (q - p)), List.take_append_drop]; exact HO.out
        go_wp2_with fail
        with_reducible refine (swapRangeO_any g n c base p (m - p) (m + q - p) F L' X (Y.take (q - p)) (Y.drop (q - p)) R' _ HO'.out (by omega) HX.out (by rw [List.length_drop, HY.out]; omega) (by rw [List.length_take, HY.out]; omega) hn).mono ?_
        rintro e w2 ⟨rfl, ho2, hb2⟩
        have O2 := Lib.hid ho2
        have hb3 := hbw.trans hb2
        clear ho2 hb2
        go_wp2
        refine ⟨⟨p, q - p, rfl, by go_num, by omega, by omega, by omega, by omega, hb3, L', Y.drop (q - p), Y.take (q - p), X ++ R', ?_, ?_, ?_, ?_, ?_⟩, by simp [intOf]; omega⟩
        · exact O2.out
        · omega
        · rw [List.length_drop, HY.out]; omega
        · rw [List.length_take, HY.out]; omega
        · rw [← HE.out, ← List.append_assoc (Y.take (q - p)), List.take_append_drop]
set_option maxRecDepth 100000 in
set_option maxHeartbeats 8000000 in
theorem sm1O_any {lb gp gb cb : Nat} {bs : List Int} (g n c base a m b : Nat) (L : List (Fin lb)) (x : Fin lb) (B R : List (Fin lb)) (w : World) (ho : w.ownsRow base 2 1 (.slice (some ⟨g, 0, none⟩) n c) n ((L ++ (x :: (B ++ R))).flatMap cO)) (hL : L.length = a) (hm : a + 1 = m) (hb : m + B.length = b) (sB : Sd (kyO bs) tgO B) (tg : Tg tgO [x] B) (hn : n ≤ 1000) (hbs : base ≤ w.heap.size) (HBW : Hid (BOk w base gp gb lb cb bs)) :
    Calls Try.prog 110 #[.slice (some ⟨g, 0, none⟩) n c, .int .i64 (a : Int), .int .i64 (m : Int), .int .i64 (b : Int), .func (.func 54) #[] #[.pointer (some ⟨gp, 0, none⟩)]] w fun e w' => e = .returned (.tuple #[]) ∧ ∃ C, Hid (w'.ownsRow base 2 1 (.slice (some ⟨g, 0, none⟩) n c) n ((L ++ (C ++ R)).flatMap cO)) ∧ Sd (kyO bs) tgO C ∧ C.Perm (x :: B) ∧ Below base w w' := by
  have hlen : a + 1 + B.length + R.length = n := by
    have := ho.1; rw [flat_len cO_len] at this; simp only [List.length_append, List.length_cons] at this; omega
  have hbw0 := fun {wr : World} (h : Below base w wr) => hbw0' hbs h
  have hg0 : base ≤ g := (ho.lt g rfl).1
  have HO := Lib.hid ho
  have HL := Lib.hid hL
  have HS := Lib.hid sB
  have HT := Lib.hid tg
  obtain ⟨q, hq⟩ : ∃ q, B.length = q := ⟨_, rfl⟩
  have HQ := Lib.hid hq
  rw [hq] at hb hlen
  have o1 : IntKind.i64.wrap ((m : Int) - (a : Int)) = 1 := by rw [IntWalk.i64_in _ (by omega)]; omega
  clear ho hL sB tg hq
  go_enter Try.func110, Try.ntmps110
  go_wp2_with fail
  clear o1
  go_loopw [10, 11] (fun i j wr => ∃ s t : Nat, i = .int .i64 (s : Int) ∧ j = .int .i64 (t : Int) ∧ m ≤ s ∧ s ≤ t ∧ t ≤ b ∧ Below base w wr ∧ Hid (wr.ownsRow base 2 1 (.slice (some ⟨g, 0, none⟩) n c) n ((L ++ (x :: (B ++ R))).flatMap cO)) ∧ Hid (s - m = 0 ∨ ∃ z, B[s - m - 1]? = some z ∧ kyO bs z < kyO bs x) ∧ Hid (t - m = B.length ∨ ∃ z, B[t - m]? = some z ∧ kyO bs x ≤ kyO bs z)) (fun i j _ => (intOf j).toNat - (intOf i).toNat)
  case atStart => exact ⟨m, b, rfl, rfl, by omega, by omega, Nat.le_refl _, Below.refl _ _, HO.out, .inl (by omega), .inl (by rw [HQ.out]; omega)⟩
  case round =>
    clear HO
    obtain ⟨s, t, rfl, rfl, hms, hst, htb, hbw, hO, h1, h2⟩ := hrel
    have hgw : g < wr.heap.size := (hO.out.lt g rfl).2
    by_cases hlt : s < t
    · obtain ⟨h, hh⟩ : ∃ h, (s + t) / 2 = h := ⟨_, rfl⟩
      have eh : ((s : Int) + (t : Int)) / 2 = (h : Int) := by omega
      obtain ⟨z0, hz⟩ : ∃ z, B[h - m]? = some z := ⟨_, List.getElem?_eq_getElem (by rw [HQ.out]; omega)⟩
      have g1 : (L ++ (x :: (B ++ R)))[a]? = some x := get_cat HL.out
      have g2 : (L ++ (x :: (B ++ R)))[h]? = some z0 := by
        rw [List.getElem?_append_right (by rw [HL.out]; omega), HL.out, show h - a = h - m + 1 by omega, List.getElem?_cons_succ, List.getElem?_append_left (by rw [HQ.out]; omega)]; exact hz
      obtain ⟨p0, pf0⟩ := own_atO hO.out g1
      obtain ⟨q0, qf0⟩ := own_atO hO.out g2
      have HZ := Lib.hid hz
      obtain ⟨x0, rfl⟩ : ∃ X, X = x := ⟨_, rfl⟩
      have i1 : (s : Int) < (t : Int) := by omega
      have i2 : (h : Int) < (n : Int) := by omega
      have i3 : (0 : Int) ≤ (h : Int) := by omega
      have i4 : (a : Int) < (n : Int) := by omega
      have i5 : (0 : Int) ≤ (a : Int) := by omega
      clear g1 g2 hz
      go_wp2_with fail
      try rw [eh]
      go_region_held3 (fun w' => (∀ b o, b < wr.heap.size → w'.cell? ⟨b, o, none⟩ = wr.cell? ⟨b, o, none⟩) ∧ Below wr.heap.size wr w') (first | exact sk (Below.refl _ _).drew | (go_split_ands; exact sk (below_app ‹_› hbw2 (Below.size ‹_›)))) (first | (go_at_call 54; with_reducible refine (cmpB_any z0 x0 _ ((HBW.out.below hbw).below (Below.refl _ _).drew)).mono ?_; rintro e w2 ⟨rfl, hbw2⟩))
      go_split_ands
      have hb2 : Below wr.heap.size wr w2 := ‹Below wr.heap.size wr w2›
      have hbb := hbw.trans (hb2.mono (hbw0 hbw))
      have HO2 := Lib.hid (own_below hO.out hb2)
      clear p0 q0 pf0 qf0
      by_cases hc : kyO bs z0 < kyO bs x0
      · rw [cmpV_lt1 hc]
        go_wp2
        exact ⟨⟨h + 1, t, by go_num, rfl, by omega, by omega, htb, hbb, HO2.out, .inr ⟨z0, by rw [show h + 1 - m - 1 = h - m by omega]; exact HZ.out, hc⟩, h2⟩, by simp [intOf]; omega⟩
      · have hc9 : kyO bs x0 ≤ kyO bs z0 := by omega
        rcases cmpV_ge1 hc with hv | hv
        all_goals
          rw [hv]
          go_wp2
          exact ⟨⟨s, h, rfl, rfl, hms, by omega, by omega, hbb, HO2.out, h1, .inr ⟨z0, HZ.out, hc9⟩⟩, by simp [intOf]; omega⟩
    · have hst2 : s = t := by omega
      subst hst2
      have HC := Lib.hid (sd_one HS.out HT.out (by rw [HQ.out]; omega) h1.out (h2.out.imp_right fun ⟨z, e1, e2⟩ => ⟨z, e1, by omega⟩))
      have HBU : Hid (wr.ownsRow base 2 1 (.slice (some ⟨g, 0, none⟩) n c) n ((bubR L x B R 0).flatMap cO)) := by show World.ownsRow _ _ _ _ _ _ _; simpa [bubR] using hO.out
      have o2 : IntKind.i64.wrap ((s : Int) - 1) = ((s - 1 : Nat) : Int) := by rw [IntWalk.i64_in _ (by omega)]; omega
      clear h1 h2 hO
      obtain ⟨wo, rfl⟩ : ∃ W, W = wr := ⟨_, rfl⟩
      go_wp2_with fail
      go_loopw [13] (fun i wr => ∃ k u : Nat, i = .int .i64 (k : Int) ∧ a + u = k ∧ u ≤ s - m ∧ Below base w wr ∧ Hid (wr.ownsRow base 2 1 (.slice (some ⟨g, 0, none⟩) n c) n ((bubR L x B R u).flatMap cO))) (fun i _ => s - (intOf i).toNat)
      case atStart => exact ⟨a, 0, rfl, rfl, by omega, hbw, HBU.out⟩
      case round =>
        clear HBU hbw
        obtain ⟨k, u, rfl, hku, hus, hbw, hO⟩ := hrel
        by_cases hlu : u < s - m
        · obtain ⟨y0, hy⟩ : ∃ y, B[u]? = some y := ⟨_, List.getElem?_eq_getElem (by rw [HQ.out]; omega)⟩
          obtain ⟨e1, e2, e3⟩ := bubR_at (x := x) (R := R) HL.out hy
          rw [hku] at e1 e2 e3
          have S3 := Lib.hid e3
          obtain ⟨j, hj⟩ : ∃ j, k + 1 = j := ⟨_, rfl⟩
          rw [hj] at e2 S3
          obtain ⟨p0, pf0⟩ := own_atO hO.out e1
          obtain ⟨q0, qf0⟩ := own_atO hO.out e2
          obtain ⟨x0, rfl⟩ : ∃ X, X = x := ⟨_, rfl⟩
          have hgw : g < wr.heap.size := (hO.out.lt g rfl).2
          have n1 : ¬ k = j := by omega
          have n5 : ¬ j = k := by omega
          have i3 : (k : Int) < (n : Int) := by omega
          have i4 : (j : Int) < (n : Int) := by omega
          have i5 : (0 : Int) ≤ (k : Int) := by omega
          have i6 : (0 : Int) ≤ (j : Int) := by omega
          have hll : Hid ((bubR L x0 B R u).length = n) := by show _ = _; have := hO.out.1; rw [flat_len cO_len] at this; omega
          have o3 : IntKind.i64.wrap ((k : Int) + 1) = (j : Int) := by rw [IntWalk.i64_in _ (by omega)]; omega
          have i1 : (k : Int) < ((s - 1 : Nat) : Int) := by omega
          clear e1 e2 e3 hy
          go_wp2_with fail
          go_region
          go_wp2
          have h9 := putSO (putSO hO.out (i := k) (by rw [hll.out]; omega) y0) (i := j) (by rw [List.length_set, hll.out]; omega) x0
          rw [S3.out] at h9
          exact ⟨⟨j, u + 1, rfl, by omega, by omega, (by repeat (first | exact Below.refl _ _ | assumption | refine Below.drew ?_ | refine below_drewN ?_ _ | refine Below.alloc ?_ (by first | omega | (simp <;> omega)) _ | refine Below.setCell ?_ (by first | omega | (simp <;> omega)) _)), h9⟩, by simp [intOf]; omega⟩
        · have hue : u = s - m := by omega
          have i1 : ¬ (k : Int) < ((s - 1 : Nat) : Int) := by omega
          have i1d : decide ((k : Int) < ((s - 1 : Nat) : Int)) = false := decide_eq_false i1
          rw [hue] at hO
          go_wp2
          refine bodyPost_ret (v := .tuple #[]) (by simp [results, Try.results110, go_sem]) rfl ⟨rfl, B.take (s - m) ++ x :: B.drop (s - m), ?_, ?_, ?_, ?_⟩
          · have h9 := hO.out; unfold bubR at h9; rw [show L ++ (B.take (s - m) ++ x :: (B.drop (s - m) ++ R)) = L ++ ((B.take (s - m) ++ x :: B.drop (s - m)) ++ R) by simp] at h9; show World.ownsRow _ _ _ _ _ _ _; simpa using h9
          · exact HC.out
          · refine List.perm_middle.trans ?_; rw [List.take_append_drop]
          · exact hbw
set_option maxRecDepth 100000 in
set_option maxHeartbeats 8000000 in
theorem sm2O_any {lb gp gb cb : Nat} {bs : List Int} (g n c base a m b : Nat) (L A : List (Fin lb)) (y : Fin lb) (R : List (Fin lb)) (w : World) (ho : w.ownsRow base 2 1 (.slice (some ⟨g, 0, none⟩) n c) n ((L ++ (A ++ (y :: R))).flatMap cO)) (hL : L.length = a) (hm : a + A.length = m) (hb : m + 1 = b) (h1 : A.length ≠ 1) (sA : Sd (kyO bs) tgO A) (tg : Tg tgO A [y]) (hn : n ≤ 1000) (hbs : base ≤ w.heap.size) (HBW : Hid (BOk w base gp gb lb cb bs)) :
    Calls Try.prog 110 #[.slice (some ⟨g, 0, none⟩) n c, .int .i64 (a : Int), .int .i64 (m : Int), .int .i64 (b : Int), .func (.func 54) #[] #[.pointer (some ⟨gp, 0, none⟩)]] w fun e w' => e = .returned (.tuple #[]) ∧ ∃ C, Hid (w'.ownsRow base 2 1 (.slice (some ⟨g, 0, none⟩) n c) n ((L ++ (C ++ R)).flatMap cO)) ∧ Sd (kyO bs) tgO C ∧ C.Perm (A ++ [y]) ∧ Below base w w' := by
  have hlen : a + A.length + 1 + R.length = n := by
    have := ho.1; rw [flat_len cO_len] at this; simp only [List.length_append, List.length_cons] at this; omega
  have hbw0 := fun {wr : World} (h : Below base w wr) => hbw0' hbs h
  have hg0 : base ≤ g := (ho.lt g rfl).1
  have HO := Lib.hid ho
  have HL := Lib.hid hL
  have HS := Lib.hid sA
  have HT := Lib.hid tg
  obtain ⟨p, hp⟩ : ∃ p, A.length = p := ⟨_, rfl⟩
  have HPL := Lib.hid hp
  rw [hp] at hm hlen h1
  have o1 : IntKind.i64.wrap ((m : Int) - (a : Int)) = (p : Int) := by rw [IntWalk.i64_in _ (by omega)]; omega
  have o1b : ((p : Int) == 1) = false := by simp; omega
  have o1c : ¬ (p : Int) = 1 := by omega
  have o1d : IntKind.i64.wrap ((b : Int) - (m : Int)) = 1 := by rw [IntWalk.i64_in _ (by omega)]; omega
  clear ho hL sA tg hp
  go_enter Try.func110, Try.ntmps110
  go_wp2_with fail
  clear o1 o1b o1c o1d
  go_loopw [14, 15] (fun i j wr => ∃ s t : Nat, i = .int .i64 (s : Int) ∧ j = .int .i64 (t : Int) ∧ a ≤ s ∧ s ≤ t ∧ t ≤ m ∧ Below base w wr ∧ Hid (wr.ownsRow base 2 1 (.slice (some ⟨g, 0, none⟩) n c) n ((L ++ (A ++ (y :: R))).flatMap cO)) ∧ Hid (s - a = 0 ∨ ∃ z, A[s - a - 1]? = some z ∧ kyO bs z ≤ kyO bs y) ∧ Hid (t - a = A.length ∨ ∃ z, A[t - a]? = some z ∧ kyO bs y < kyO bs z)) (fun i j _ => (intOf j).toNat - (intOf i).toNat)
  case atStart => exact ⟨a, m, rfl, rfl, by omega, by omega, Nat.le_refl _, Below.refl _ _, HO.out, .inl (by omega), .inl (by rw [HPL.out]; omega)⟩
  case round =>
    clear HO
    obtain ⟨s, t, rfl, rfl, hms, hst, htb, hbw, hO, h1', h2⟩ := hrel
    have hgw : g < wr.heap.size := (hO.out.lt g rfl).2
    by_cases hlt : s < t
    · obtain ⟨h, hh⟩ : ∃ h, (s + t) / 2 = h := ⟨_, rfl⟩
      have eh : ((s : Int) + (t : Int)) / 2 = (h : Int) := by omega
      obtain ⟨z0, hz⟩ : ∃ z, A[h - a]? = some z := ⟨_, List.getElem?_eq_getElem (by rw [HPL.out]; omega)⟩
      have g1 : (L ++ (A ++ (y :: R)))[m]? = some y := by rw [← List.append_assoc]; exact get_cat (by rw [List.length_append, HL.out, HPL.out]; omega)
      have g2 : (L ++ (A ++ (y :: R)))[h]? = some z0 := by
        rw [List.getElem?_append_right (by rw [HL.out]; omega), HL.out, List.getElem?_append_left (by rw [HPL.out]; omega)]; exact hz
      obtain ⟨p0, pf0⟩ := own_atO hO.out g1
      obtain ⟨q0, qf0⟩ := own_atO hO.out g2
      have HZ := Lib.hid hz
      obtain ⟨x0, rfl⟩ : ∃ X, X = y := ⟨_, rfl⟩
      have i1 : (s : Int) < (t : Int) := by omega
      have i2 : (h : Int) < (n : Int) := by omega
      have i3 : (0 : Int) ≤ (h : Int) := by omega
      have i4 : (m : Int) < (n : Int) := by omega
      have i5 : (0 : Int) ≤ (m : Int) := by omega
      clear g1 g2 hz
      go_wp2_with fail
      try rw [eh]
      go_region_held3 (fun w' => (∀ b o, b < wr.heap.size → w'.cell? ⟨b, o, none⟩ = wr.cell? ⟨b, o, none⟩) ∧ Below wr.heap.size wr w') (first | exact sk (Below.refl _ _).drew | (go_split_ands; exact sk (below_app ‹_› hbw2 (Below.size ‹_›)))) (first | (go_at_call 54; with_reducible refine (cmpB_any x0 z0 _ ((HBW.out.below hbw).below (Below.refl _ _).drew)).mono ?_; rintro e w2 ⟨rfl, hbw2⟩))
      go_split_ands
      have hb2 : Below wr.heap.size wr w2 := ‹Below wr.heap.size wr w2›
      have hbb := hbw.trans (hb2.mono (hbw0 hbw))
      have HO2 := Lib.hid (own_below hO.out hb2)
      clear p0 q0 pf0 qf0
      by_cases hc : kyO bs x0 < kyO bs z0
      · rw [cmpV_lt1 hc]
        go_wp2
        exact ⟨⟨s, h, rfl, rfl, hms, by omega, by omega, hbb, HO2.out, h1', .inr ⟨z0, HZ.out, hc⟩⟩, by simp [intOf]; omega⟩
      · have hc9 : kyO bs z0 ≤ kyO bs x0 := by omega
        rcases cmpV_ge1 hc with hv | hv
        all_goals
          rw [hv]
          go_wp2
          exact ⟨⟨h + 1, t, by go_num, rfl, by omega, by omega, htb, hbb, HO2.out, .inr ⟨z0, by rw [show h + 1 - a - 1 = h - a by omega]; exact HZ.out, hc9⟩, h2⟩, by simp [intOf]; omega⟩
    · have hst2 : s = t := by omega
      subst hst2
      have HC := Lib.hid (sd_one' HS.out HT.out (by rw [HPL.out]; omega) (h1'.out.imp_right fun ⟨z, e1, e2⟩ => ⟨z, e1, by omega⟩) h2.out)
      have HBU : Hid (wr.ownsRow base 2 1 (.slice (some ⟨g, 0, none⟩) n c) n ((bubR L y A R p).flatMap cO)) := by show World.ownsRow _ _ _ _ _ _ _; have h9 := hO.out; unfold bubR; rw [List.take_of_length_le (by rw [HPL.out]; exact Nat.le_refl _), List.drop_of_length_le (by rw [HPL.out]; exact Nat.le_refl _), List.nil_append]; exact h9
      clear h1' h2 hO
      obtain ⟨wo, rfl⟩ : ∃ W, W = wr := ⟨_, rfl⟩
      go_wp2_with fail
      go_loopw [17] (fun i wr => ∃ k u : Nat, i = .int .i64 (k : Int) ∧ a + u = k ∧ s - a ≤ u ∧ u ≤ p ∧ Below base w wr ∧ Hid (wr.ownsRow base 2 1 (.slice (some ⟨g, 0, none⟩) n c) n ((bubR L y A R u).flatMap cO))) (fun i _ => (intOf i).toNat)
      case atStart => exact ⟨m, p, rfl, by omega, by omega, Nat.le_refl _, hbw, HBU.out⟩
      case round =>
        clear HBU hbw
        obtain ⟨k, u, rfl, hku, hus, hup, hbw, hO⟩ := hrel
        by_cases hlu : s - a < u
        · obtain ⟨v, rfl⟩ : ∃ v, u = v + 1 := ⟨u - 1, by omega⟩
          obtain ⟨y0, hy⟩ : ∃ y, A[v]? = some y := ⟨_, List.getElem?_eq_getElem (by rw [HPL.out]; omega)⟩
          obtain ⟨e1, e2, e3⟩ := bubL_at (y := y) (R := R) HL.out hy
          obtain ⟨j, hj⟩ : ∃ j, a + v = j := ⟨_, rfl⟩
          rw [show a + v + 1 = k by omega] at e1 e3
          rw [hj] at e2 e3
          have S3 := Lib.hid e3
          obtain ⟨p0, pf0⟩ := own_atO hO.out e1
          obtain ⟨q0, qf0⟩ := own_atO hO.out e2
          obtain ⟨x0, rfl⟩ : ∃ X, X = y := ⟨_, rfl⟩
          have hgw : g < wr.heap.size := (hO.out.lt g rfl).2
          have n1 : ¬ j = k := by omega
          have n5 : ¬ k = j := by omega
          have i3 : (j : Int) < (n : Int) := by omega
          have i4 : (k : Int) < (n : Int) := by omega
          have i5 : (0 : Int) ≤ (j : Int) := by omega
          have i6 : (0 : Int) ≤ (k : Int) := by omega
          have hll : Hid ((bubR L x0 A R (v + 1)).length = n) := by show _ = _; have := hO.out.1; rw [flat_len cO_len] at this; omega
          have o3 : IntKind.i64.wrap ((k : Int) - 1) = (j : Int) := by rw [IntWalk.i64_in _ (by omega)]; omega
          have i1 : (s : Int) < (k : Int) := by omega
          clear e1 e2 e3 hy
          go_wp2_with fail
          go_region
          go_wp2
          have h9 := putSO (putSO hO.out (i := k) (by rw [hll.out]; omega) y0) (i := j) (by rw [List.length_set, hll.out]; omega) x0
          rw [S3.out] at h9
          exact ⟨⟨j, v, rfl, by omega, by omega, by omega, (by repeat (first | exact Below.refl _ _ | assumption | refine Below.drew ?_ | refine below_drewN ?_ _ | refine Below.alloc ?_ (by first | omega | (simp <;> omega)) _ | refine Below.setCell ?_ (by first | omega | (simp <;> omega)) _)), h9⟩, by simp [intOf]; omega⟩
        · have hue : u = s - a := by omega
          have i1 : ¬ (s : Int) < (k : Int) := by omega
          have i1d : decide ((s : Int) < (k : Int)) = false := decide_eq_false i1
          rw [hue] at hO
          go_wp2
          refine bodyPost_ret (v := .tuple #[]) (by simp [results, Try.results110, go_sem]) rfl ⟨rfl, A.take (s - a) ++ y :: A.drop (s - a), ?_, ?_, ?_, ?_⟩
          · have h9 := hO.out; unfold bubR at h9; rw [show L ++ (A.take (s - a) ++ y :: (A.drop (s - a) ++ R)) = L ++ ((A.take (s - a) ++ y :: A.drop (s - a)) ++ R) by simp] at h9; show World.ownsRow _ _ _ _ _ _ _; simpa using h9
          · exact HC.out
          · refine List.perm_middle.trans ?_; rw [List.take_append_drop]; exact List.perm_append_comm (l₁ := [y]) (l₂ := A)
          · exact hbw
end Go.Proofs.Ytkldejbhhbgefaa
