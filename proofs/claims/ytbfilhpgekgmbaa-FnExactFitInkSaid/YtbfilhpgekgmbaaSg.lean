/- StraightenInk and FitInk, the program's. -/
import Derived.Test.YtbfilhpgekgmbaaIm
namespace Go.Proofs.Ytbfilhpgekgmbaa
open Go.ChangeShapes Go.WideShapes Go.ChangeAt Go.RowKit
set_option linter.unusedVariables false
set_option linter.unusedSimpArgs false
def stOk (s b : Int) (xs : List (List T3)) : Bool := inkB xs && (inB (-256) 256 s && inB 0 4095 b) && inkB (mpI (stP s b) xs)
def stL (s b : Int) (xs : List (List T3)) : List (List T3) := if stOk s b xs = true then mpI (stP s b) xs else []
def stE (s b : Int) (xs : List (List T3)) : Int := if inkB xs = true then (if (inB (-256) 256 s && inB 0 4095 b) = true then (if inkB (mpI (stP s b) xs) = true then 0 else 6) else 2) else 1
theorem st_bad {s b : Int} {xs : List (List T3)} (h : inkB xs = false) : stL s b xs = [] ∧ stE s b xs = 1 := by unfold stL stE stOk; rw [h]; exact ⟨rfl, rfl⟩
theorem st_far {s b : Int} {xs : List (List T3)} (h : inkB xs = true) (h2 : (inB (-256) 256 s && inB 0 4095 b) = false) : stL s b xs = [] ∧ stE s b xs = 2 := by unfold stL stE stOk; rw [h, h2]; exact ⟨rfl, rfl⟩
theorem st_out {s b : Int} {xs : List (List T3)} (h : inkB xs = true) (h2 : (inB (-256) 256 s && inB 0 4095 b) = true) (h3 : inkB (mpI (stP s b) xs) = false) : stL s b xs = [] ∧ stE s b xs = 6 := by unfold stL stE stOk; rw [h, h2, h3]; exact ⟨rfl, rfl⟩
theorem st_ok {s b : Int} {xs : List (List T3)} (h : inkB xs = true) (h2 : (inB (-256) 256 s && inB 0 4095 b) = true) (h3 : inkB (mpI (stP s b) xs) = true) : stL s b xs = mpI (stP s b) xs ∧ stE s b xs = 0 := by unfold stL stE stOk; rw [h, h2, h3]; exact ⟨rfl, rfl⟩
theorem stL_tot (s b : Int) (xs : List (List T3)) : totL (stL s b xs) ≤ totL xs := by
  unfold stL; split
  · rw [mpI_tot]; exact Nat.le_refl _
  · simp [totL]
def ftL (side : Int) (xs : List (List T3)) : List (List T3) := if (inkB xs && inB 1 4095 side && decide (xs.length ≠ 0)) = true then mpI (ftP (bxI xs) (sideB (bxI xs)) side) xs else []
def ftE (side : Int) (xs : List (List T3)) : Int := if inkB xs = true then (if inB 1 4095 side = true then (if xs.length = 0 then 6 else 0) else 2) else 1
theorem ft_bad {side : Int} {xs : List (List T3)} (h : inkB xs = false) : ftL side xs = [] ∧ ftE side xs = 1 := by unfold ftL ftE; rw [h]; exact ⟨rfl, rfl⟩
theorem ft_far {side : Int} {xs : List (List T3)} (h : inkB xs = true) (h2 : inB 1 4095 side = false) : ftL side xs = [] ∧ ftE side xs = 2 := by unfold ftL ftE; rw [h, h2]; exact ⟨rfl, rfl⟩
theorem ft_none {side : Int} {xs : List (List T3)} (h : inkB xs = true) (h2 : inB 1 4095 side = true) (h3 : xs.length = 0) : ftL side xs = [] ∧ ftE side xs = 6 := by unfold ftL ftE; rw [h, h2, h3]; exact ⟨rfl, rfl⟩
theorem ft_ok {side : Int} {xs : List (List T3)} (h : inkB xs = true) (h2 : inB 1 4095 side = true) (h3 : xs.length ≠ 0) : ftL side xs = mpI (ftP (bxI xs) (sideB (bxI xs)) side) xs ∧ ftE side xs = 0 := by
  unfold ftL ftE; rw [h, h2, decide_eq_true h3, if_neg h3]; exact ⟨rfl, rfl⟩
theorem ftL_tot (side : Int) (xs : List (List T3)) : totL (ftL side xs) ≤ totL xs := by
  unfold ftL; split
  · rw [mpI_tot]; exact Nat.le_refl _
  · simp [totL]
theorem okB_box {b : T4} (h : okB b) : boxOk b = true := by
  obtain ⟨a, b, c, d⟩ := b; unfold okB at h; dsimp only at h; rw [boxOk_iff]; omega
theorem sideB_bd {b : T4} (h : okB b) : 1 ≤ sideB b ∧ sideB b ≤ 4096 := by
  obtain ⟨a, b, c, d⟩ := b; unfold okB at h; dsimp only at h; unfold sideB; dsimp only; omega
theorem NS.kept4 {w : World} {base t1 t2 : Nat} (xs : List (List T3)) (h : xs = []) : NS w base t1 t2 none 0 0 [] xs := by subst h; exact NS.nil _ _ _ _
set_option maxRecDepth 100000 in
set_option maxHeartbeats 8000000 in
theorem iStraight_any (A : Option Addr) (n c : Nat) (xs : List (List T3)) (s bs : Int) (w : World) (hr : NL w w.heap.size A n c xs) (hn : totL xs ≤ 1048576) :
    Calls Try.prog 11 #[.agg #[.slice A n c], .int .i64 s, .int .i64 bs] w fun e w' => ∃ (A' : Option Addr) (n' c' : Nat) (hs : List HS), e = .returned (.tuple #[.agg #[.slice A' n' c'], .int .i64 (stE s bs xs)]) ∧
      NS w' w.heap.size 52 54 A' n' c' hs (stL s bs xs) ∧ Below w.heap.size w w' := by
  have hl := Lib.hid hr.len
  go_enter Try.func11, Try.ntmps11
  go_wp2_with fail
  have K0 : Blk ((((w.alloc (.cells #[.slice A n c] 28)).alloc (.cells #[.int .i64 s] 2)).alloc (.cells #[.int .i64 bs] 2)).alloc (.cells #[.slice none 0 0] 28)) (w.heap.size) 28 #[.slice A n c] := by have hk := (((Blk.new w 28 #[.slice A n c]).alloc (.cells #[.int .i64 s] 2)).alloc (.cells #[.int .i64 bs] 2)).alloc (.cells #[.slice none 0 0] 28); simpa using hk
  have S0 : Blk ((((w.alloc (.cells #[.slice A n c] 28)).alloc (.cells #[.int .i64 s] 2)).alloc (.cells #[.int .i64 bs] 2)).alloc (.cells #[.slice none 0 0] 28)) (w.heap.size + 1) 2 #[.int .i64 s] := by have hk := ((Blk.new (w.alloc (.cells #[.slice A n c] 28)) 2 #[.int .i64 s]).alloc (.cells #[.int .i64 bs] 2)).alloc (.cells #[.slice none 0 0] 28); simpa using hk
  have T0 : Blk ((((w.alloc (.cells #[.slice A n c] 28)).alloc (.cells #[.int .i64 s] 2)).alloc (.cells #[.int .i64 bs] 2)).alloc (.cells #[.slice none 0 0] 28)) (w.heap.size + 1 + 1) 2 #[.int .i64 bs] := by have hk := (Blk.new ((w.alloc (.cells #[.slice A n c] 28)).alloc (.cells #[.int .i64 s] 2)) 2 #[.int .i64 bs]).alloc (.cells #[.slice none 0 0] 28); simpa using hk
  have R0 : Blk ((((w.alloc (.cells #[.slice A n c] 28)).alloc (.cells #[.int .i64 s] 2)).alloc (.cells #[.int .i64 bs] 2)).alloc (.cells #[.slice none 0 0] 28)) (w.heap.size + 1 + 1 + 1) 28 #[.slice none 0 0] := by have hk := Blk.new (((w.alloc (.cells #[.slice A n c] 28)).alloc (.cells #[.int .i64 s] 2)).alloc (.cells #[.int .i64 bs] 2)) 28 #[.slice none 0 0]; simpa using hk
  have hbv : Below w.heap.size w ((((w.alloc (.cells #[.slice A n c] 28)).alloc (.cells #[.int .i64 s] 2)).alloc (.cells #[.int .i64 bs] 2)).alloc (.cells #[.slice none 0 0] 28)) := (by repeat (first | exact Below.refl _ _ | assumption | refine Below.drew ?_ | refine below_drewN ?_ _ | refine Below.alloc ?_ (by first | omega | (simp <;> omega)) _ | refine Below.setCell ?_ (by first | omega | (simp <;> omega)) _))
  replace hr := hr.on hbv
  generalize ((((w.alloc (.cells #[.slice A n c] 28)).alloc (.cells #[.int .i64 s] 2)).alloc (.cells #[.int .i64 bs] 2)).alloc (.cells #[.slice none 0 0] 28)) = v at *
  have hB := hbv
  obtain ⟨e0, _, _⟩ := K0.one
  go_wp2_with fail
  with_reducible refine (iValidInk_any _ _ _ xs _ hr hn).mono ?_
  rintro e w1 ⟨rfl, hb1⟩
  replace K0 := K0.on hb1
  replace S0 := S0.on hb1
  replace T0 := T0.on hb1
  replace R0 := R0.on hb1
  replace hr := hr.on hb1
  replace hB := below_on hb1 hB
  clear e0 hb1 hbv
  have HR := Lib.hid hr
  clear hr
  obtain ⟨e0, _, z0⟩ := K0.one
  obtain ⟨e1, _, z1⟩ := S0.one
  obtain ⟨e2, _, z2⟩ := T0.one
  obtain ⟨r0, f0, z3⟩ := R0.one
  cases hok : inkB xs with
  | false =>
    have F := Lib.hid (st_bad (s := s) (b := bs) hok)
    clear e0 e1 e2
    go_wp2
    refine bodyPost_ret (v := .tuple #[.agg #[.slice none 0 0], .int .i64 1]) (by simp [results, Try.results11, go_sem, r0]) rfl ⟨none, 0, 0, [], by rw [F.out.2], NS.kept4 _ F.out.1, (by repeat (first | exact Below.refl _ _ | assumption | refine Below.drew ?_ | refine below_drewN ?_ _ | refine Below.alloc ?_ (by first | omega | (simp <;> omega)) _ | refine Below.setCell ?_ (by first | omega | (simp <;> omega)) _))⟩
  | true =>
    have Hok := Lib.hid hok
    cases h1 : inB (-256) 256 s with
    | false =>
      have F := Lib.hid (st_far (s := s) (b := bs) hok (by rw [h1]; rfl))
      have H1 := Lib.hid h1
      clear e0 e2 hok
      go_wp2_with (first | (go_at_call 33; with_reducible refine (within_any _ _ _ _).mono ?_; rw [H1.out]; rintro e w' ⟨rfl, rfl⟩))
      refine bodyPost_ret (v := .tuple #[.agg #[.slice none 0 0], .int .i64 2]) (by simp [results, Try.results11, go_sem, r0]) rfl ⟨none, 0, 0, [], by rw [F.out.2], NS.kept4 _ F.out.1, (by repeat (first | exact Below.refl _ _ | assumption | refine Below.drew ?_ | refine below_drewN ?_ _ | refine Below.alloc ?_ (by first | omega | (simp <;> omega)) _ | refine Below.setCell ?_ (by first | omega | (simp <;> omega)) _))⟩
    | true =>
      have H1 := Lib.hid h1
      cases h2 : inB 0 4095 bs with
      | false =>
        have F := Lib.hid (st_far (s := s) (b := bs) hok (by rw [h1, h2]; rfl))
        have H2 := Lib.hid h2
        clear e0 hok
        go_wp2_with (first | (go_at_call 33; with_reducible refine (within_any _ _ _ _).mono ?_; rw [H1.out]; rintro e w' ⟨rfl, rfl⟩) | (go_at_call 34; with_reducible refine (isCoord_any _ _).mono ?_; rw [H2.out]; rintro e w' ⟨rfl, rfl⟩))
        refine bodyPost_ret (v := .tuple #[.agg #[.slice none 0 0], .int .i64 2]) (by simp [results, Try.results11, go_sem, r0]) rfl ⟨none, 0, 0, [], by rw [F.out.2], NS.kept4 _ F.out.1, (by repeat (first | exact Below.refl _ _ | assumption | refine Below.drew ?_ | refine below_drewN ?_ _ | refine Below.alloc ?_ (by first | omega | (simp <;> omega)) _ | refine Below.setCell ?_ (by first | omega | (simp <;> omega)) _))⟩
      | true =>
        have H2 := Lib.hid h2
        have H12 := Lib.hid (show (inB (-256) 256 s && inB 0 4095 bs) = true by rw [h1, h2]; rfl)
        obtain ⟨a0, a1⟩ := inB_iff.1 h1
        obtain ⟨a2, a3⟩ := inB_iff.1 h2
        clear hok h1 h2
        have hq : ∀ (P : Prop), P → P := fun P h => h
        go_wp2_with (first | (go_at_call 33; with_reducible refine (within_any _ _ _ _).mono ?_; rw [H1.out]; rintro e w' ⟨rfl, rfl⟩) | (go_at_call 34; with_reducible refine (isCoord_any _ _).mono ?_; rw [H2.out]; rintro e w' ⟨rfl, rfl⟩) | (go_at_call 35; fail))
        with_reducible refine (mapSt_any _ _ _ xs _ HR.out Hok.out s bs (w.heap.size + 1) (w.heap.size + 1 + 1) S0.cel T0.cel a0 a1 a2 a3).mono ?_
        rintro e w2 ⟨A2, c2, hs2, rfl, NS2, hb2⟩
        have hnl := NS2.nl
        have HN2 := Lib.hid NS2
        replace R0 := R0.on hb2
        have hzb := hB.size
        replace hB := below_on hb2 hB
        have hz2 := hb2.size
        clear e0 e1 e2 r0 f0 NS2 hb2
        obtain ⟨r0, f0, z3⟩ := R0.one
        go_wp2_with fail
        have J0 := Blk.new (w2) 28 #[.slice A2 n c2]
        have hbw3 : Below (w2).heap.size (w2) ((w2).alloc (.cells #[.slice A2 n c2] 28)) := (Below.refl _ _).alloc (Nat.le_refl _) _
        generalize (w2).alloc (.cells #[.slice A2 n c2] 28) = w3 at *
        replace R0 := R0.on hbw3
        replace hB := below_on hbw3 hB
        have HN3 := Lib.hid (HN2.out.on hbw3)
        obtain ⟨j0, _, zj⟩ := J0.one
        clear r0 f0
        go_wp2_with fail
        with_reducible refine (iValidInk_any _ _ _ _ _ HN3.out.nl (by rw [mpI_tot]; exact hn)).mono ?_
        rintro e w4 ⟨rfl, hb4⟩
        replace J0 := J0.on hb4
        replace R0 := R0.on hb4
        replace hB := below_on hb4 hB
        have HN4 := Lib.hid (HN3.out.on hb4)
        clear j0 hb4
        obtain ⟨j0, _, zj⟩ := J0.one
        obtain ⟨r0, f0, z3⟩ := R0.one
        cases h3 : inkB (mpI (stP s bs) xs) with
        | false =>
          have F := Lib.hid (st_out Hok.out H12.out h3)
          go_wp2
          refine bodyPost_ret (v := .tuple #[.agg #[.slice none 0 0], .int .i64 6]) (by simp [results, Try.results11, go_sem, r0]) rfl ⟨none, 0, 0, [], by rw [F.out.2], NS.kept4 _ F.out.1, (by repeat (first | exact Below.refl _ _ | assumption | refine Below.drew ?_ | refine below_drewN ?_ _ | refine Below.alloc ?_ (by first | omega | (simp <;> omega)) _ | refine Below.setCell ?_ (by first | omega | (simp <;> omega)) _))⟩
        | true =>
          have F := Lib.hid (st_ok Hok.out H12.out h3)
          go_wp2
          refine bodyPost_ret (v := .tuple #[.agg #[.slice A2 n c2], .int .i64 0]) (by simp [results, Try.results11, go_sem, r0]) rfl ⟨A2, n, c2, hs2, by rw [F.out.2], ?_, (by repeat (first | exact Below.refl _ _ | assumption | refine Below.drew ?_ | refine below_drewN ?_ _ | refine Below.alloc ?_ (by first | omega | (simp <;> omega)) _ | refine Below.setCell ?_ (by first | omega | (simp <;> omega)) _))⟩
          rw [F.out.1]
          exact (HN4.out.far (by simp only; omega) _).mono (by omega)
set_option maxRecDepth 100000 in
set_option maxHeartbeats 8000000 in
theorem iFit_any (A : Option Addr) (n c : Nat) (xs : List (List T3)) (side : Int) (w : World) (hr : NL w w.heap.size A n c xs) (hn : totL xs ≤ 1048576) :
    Calls Try.prog 16 #[.agg #[.slice A n c], .int .i64 side] w fun e w' => ∃ (A' : Option Addr) (n' c' : Nat) (hs : List HS), e = .returned (.tuple #[.agg #[.slice A' n' c'], .int .i64 (ftE side xs)]) ∧
      NS w' w.heap.size 52 54 A' n' c' hs (ftL side xs) ∧ Below w.heap.size w w' := by
  have hl := Lib.hid hr.len
  go_enter Try.func16, Try.ntmps16
  go_wp2_with fail
  have K0 : Blk (((w.alloc (.cells #[.slice A n c] 28)).alloc (.cells #[.int .i64 side] 2)).alloc (.cells #[.slice none 0 0] 28)) (w.heap.size) 28 #[.slice A n c] := by have hk := ((Blk.new w 28 #[.slice A n c]).alloc (.cells #[.int .i64 side] 2)).alloc (.cells #[.slice none 0 0] 28); simpa using hk
  have S0 : Blk (((w.alloc (.cells #[.slice A n c] 28)).alloc (.cells #[.int .i64 side] 2)).alloc (.cells #[.slice none 0 0] 28)) (w.heap.size + 1) 2 #[.int .i64 side] := by have hk := (Blk.new (w.alloc (.cells #[.slice A n c] 28)) 2 #[.int .i64 side]).alloc (.cells #[.slice none 0 0] 28); simpa using hk
  have R0 : Blk (((w.alloc (.cells #[.slice A n c] 28)).alloc (.cells #[.int .i64 side] 2)).alloc (.cells #[.slice none 0 0] 28)) (w.heap.size + 1 + 1) 28 #[.slice none 0 0] := by have hk := Blk.new ((w.alloc (.cells #[.slice A n c] 28)).alloc (.cells #[.int .i64 side] 2)) 28 #[.slice none 0 0]; simpa using hk
  have hbv : Below w.heap.size w (((w.alloc (.cells #[.slice A n c] 28)).alloc (.cells #[.int .i64 side] 2)).alloc (.cells #[.slice none 0 0] 28)) := (by repeat (first | exact Below.refl _ _ | assumption | refine Below.drew ?_ | refine below_drewN ?_ _ | refine Below.alloc ?_ (by first | omega | (simp <;> omega)) _ | refine Below.setCell ?_ (by first | omega | (simp <;> omega)) _))
  replace hr := hr.on hbv
  generalize (((w.alloc (.cells #[.slice A n c] 28)).alloc (.cells #[.int .i64 side] 2)).alloc (.cells #[.slice none 0 0] 28)) = v at *
  have hB := hbv
  obtain ⟨e0, _, _⟩ := K0.one
  go_wp2_with fail
  with_reducible refine (iValidInk_any _ _ _ xs _ hr hn).mono ?_
  rintro e w1 ⟨rfl, hb1⟩
  replace K0 := K0.on hb1
  replace S0 := S0.on hb1
  replace R0 := R0.on hb1
  replace hr := hr.on hb1
  replace hB := below_on hb1 hB
  clear e0 hb1 hbv
  have HR := Lib.hid hr
  clear hr
  obtain ⟨e0, _, z0⟩ := K0.one
  obtain ⟨e1, _, z1⟩ := S0.one
  obtain ⟨r0, f0, z3⟩ := R0.one
  cases hok : inkB xs with
  | false =>
    have F := Lib.hid (ft_bad (side := side) hok)
    clear e0 e1
    go_wp2
    refine bodyPost_ret (v := .tuple #[.agg #[.slice none 0 0], .int .i64 1]) (by simp [results, Try.results16, go_sem, r0]) rfl ⟨none, 0, 0, [], by rw [F.out.2], NS.kept4 _ F.out.1, (by repeat (first | exact Below.refl _ _ | assumption | refine Below.drew ?_ | refine below_drewN ?_ _ | refine Below.alloc ?_ (by first | omega | (simp <;> omega)) _ | refine Below.setCell ?_ (by first | omega | (simp <;> omega)) _))⟩
  | true =>
    have Hok := Lib.hid hok
    have h16 := inkB_len hok
    rw [hl.out] at h16
    cases h1 : inB 1 4095 side with
    | false =>
      have F := Lib.hid (ft_far hok h1)
      have H1 := Lib.hid h1
      clear e0 hok
      go_wp2_with (first | (go_at_call 33; with_reducible refine (within_any _ _ _ _).mono ?_; rw [H1.out]; rintro e w' ⟨rfl, rfl⟩))
      refine bodyPost_ret (v := .tuple #[.agg #[.slice none 0 0], .int .i64 2]) (by simp [results, Try.results16, go_sem, r0]) rfl ⟨none, 0, 0, [], by rw [F.out.2], NS.kept4 _ F.out.1, (by repeat (first | exact Below.refl _ _ | assumption | refine Below.drew ?_ | refine below_drewN ?_ _ | refine Below.alloc ?_ (by first | omega | (simp <;> omega)) _ | refine Below.setCell ?_ (by first | omega | (simp <;> omega)) _))⟩
    | true =>
      have H1 := Lib.hid h1
      obtain ⟨a0, a1⟩ := inB_iff.1 h1
      by_cases hz : n = 0
      · have F := Lib.hid (ft_none hok h1 (by rw [hl.out]; exact hz))
        clear hok h1
        subst hz
        go_wp2_with (first | (go_at_call 33; with_reducible refine (within_any _ _ _ _).mono ?_; rw [H1.out]; rintro e w' ⟨rfl, rfl⟩))
        refine bodyPost_ret (v := .tuple #[.agg #[.slice none 0 0], .int .i64 6]) (by simp [results, Try.results16, go_sem, r0]) rfl ⟨none, 0, 0, [], by rw [F.out.2], NS.kept4 _ F.out.1, (by repeat (first | exact Below.refl _ _ | assumption | refine Below.drew ?_ | refine below_drewN ?_ _ | refine Below.alloc ?_ (by first | omega | (simp <;> omega)) _ | refine Below.setCell ?_ (by first | omega | (simp <;> omega)) _))⟩
      · have F := Lib.hid (ft_ok hok h1 (by rw [hl.out]; exact hz))
        have hbk := bxI_ok hok (by rw [hl.out]; exact hz)
        obtain ⟨d0, d1⟩ := sideB_bd hbk
        have hbx2 := okB_box hbk
        have HPT := Lib.hid (fun (k : Nat) (x : List T3) (p : T3) (hx : xs[k]? = some x) (hp : p ∈ x) => bxI_in hx hp)
        obtain ⟨⟨b1, b2, b3, b4⟩, hbx⟩ : ∃ bx, bxI xs = bx := ⟨_, rfl⟩
        rw [hbx] at F HPT hbk d0 d1 hbx2
        have HBX := Lib.hid hbx
        have z2 : ¬ (n : Int) = 0 := by omega
        have z4 : ((n : Int) == 0) = false := by simp; omega
        clear hok h1 hbx
        go_wp2_with (first | (go_at_call 33; with_reducible refine (within_any _ _ _ _).mono ?_; rw [H1.out]; rintro e w' ⟨rfl, rfl⟩) | (go_at_call 43; fail))
        with_reducible refine (boxOfInk_any _ _ _ xs _ HR.out Hok.out (by omega)).mono ?_
        rw [HBX.out]
        rintro e w2 ⟨rfl, hb2⟩
        replace K0 := K0.on hb2
        replace S0 := S0.on hb2
        replace R0 := R0.on hb2
        have HR2 := Lib.hid (HR.out.on hb2)
        replace hB := below_on hb2 hB
        clear e0 e1 r0 f0 hb2
        go_wp2_with fail
        have J0 := Blk.new (w2) 64 #[.int .i64 b1, .int .i64 b2, .int .i64 b3, .int .i64 b4]
        have hbw3 : Below (w2).heap.size (w2) ((w2).alloc (.cells #[.int .i64 b1, .int .i64 b2, .int .i64 b3, .int .i64 b4] 64)) := (Below.refl _ _).alloc (Nat.le_refl _) _
        generalize (w2).alloc (.cells #[.int .i64 b1, .int .i64 b2, .int .i64 b3, .int .i64 b4] 64) = w3 at *
        replace K0 := K0.on hbw3
        replace S0 := S0.on hbw3
        replace R0 := R0.on hbw3
        have HR3 := Lib.hid (HR2.out.on hbw3)
        replace hB := below_on hbw3 hB
        obtain ⟨j0, j1, j2, j3, _, _, _, _, zj⟩ := J0.four
        go_wp2_with fail
        with_reducible refine (sideOfBox_any _ _ _ _ _ hbx2).mono ?_
        rintro e w4 ⟨rfl, hb4⟩
        generalize sideB (b1, b2, b3, b4) = sd at *
        replace K0 := K0.on hb4
        replace S0 := S0.on hb4
        replace R0 := R0.on hb4
        replace J0 := J0.on hb4
        have HR4 := Lib.hid (HR3.out.on hb4)
        replace hB := below_on hb4 hB
        clear j0 j1 j2 j3 hb4 hbw3
        obtain ⟨e0, _, z0⟩ := K0.one
        go_wp2_with fail
        clear e0
        have Q0 := Blk.new (w4) 2 #[.int .i64 sd]
        have hbw5 : Below (w4).heap.size (w4) ((w4).alloc (.cells #[.int .i64 sd] 2)) := (Below.refl _ _).alloc (Nat.le_refl _) _
        generalize (w4).alloc (.cells #[.int .i64 sd] 2) = w5 at *
        replace K0 := K0.on hbw5
        replace S0 := S0.on hbw5
        replace R0 := R0.on hbw5
        replace J0 := J0.on hbw5
        have HR5 := Lib.hid (HR4.out.on hbw5)
        replace hB := below_on hbw5 hB
        clear hbw5
        with_reducible refine (mapFt_any _ _ _ xs _ HR5.out Hok.out b1 b2 b3 b4 sd side _ _ _ J0 S0.cel Q0.cel d0 d1 a0 a1 hbk HPT.out).mono ?_
        rintro e w6 ⟨A2, c2, hs2, rfl, NS2, hb6⟩
        have HN := Lib.hid NS2
        have hzr := R0.lt
        replace R0 := R0.on hb6
        have hzb := hB.size
        replace hB := below_on hb6 hB
        clear NS2 hb6
        obtain ⟨r0, f0, z3⟩ := R0.one
        go_wp2
        refine bodyPost_ret (v := .tuple #[.agg #[.slice A2 n c2], .int .i64 0]) (by simp [results, Try.results16, go_sem, r0]) rfl ⟨A2, n, c2, hs2, by rw [F.out.2], ?_, (by repeat (first | exact Below.refl _ _ | assumption | refine Below.drew ?_ | refine below_drewN ?_ _ | refine Below.alloc ?_ (by first | omega | (simp <;> omega)) _ | refine Below.setCell ?_ (by first | omega | (simp <;> omega)) _))⟩
        rw [F.out.1]
        exact (HN.out.far (by simp only; omega) _).mono (by omega)
end Go.Proofs.Ytbfilhpgekgmbaa
