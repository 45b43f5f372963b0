/- BaseLineOf and MiddleHeight: the median of a number of the boxes of all strokes. -/
import Derived.Test.YtbfilhpgekgmbaaBk
import Derived.Test.YtbfilhpgekgmbaaMd
namespace Go.Proofs.Ytbfilhpgekgmbaa
open Go.ChangeShapes Go.WideShapes Go.ChangeAt Go.RowKit
set_option linter.unusedVariables false
set_option linter.unusedSimpArgs false
def fY (b : T4) : Int := b.2.2.2
def fH (b : T4) : Int := b.2.2.2 - b.2.1
def bxL (f : T4 → Int) (xs : List (List T3)) (k : Nat) : List Int := (xs.take k).map fun x => f (bxS x)
theorem bxL_step {f : T4 → Int} {xs : List (List T3)} {k : Nat} {x : List T3} (h : xs[k]? = some x) : bxL f xs (k + 1) = bxL f xs k ++ [f (bxS x)] := by unfold bxL; rw [take_succ_of h]; simp
theorem bxL_len {f : T4 → Int} {xs : List (List T3)} {n : Nat} (h : xs.length = n) : (bxL f xs n).length = n := by unfold bxL; rw [List.length_map, List.length_take]; omega
def mhV (f : T4 → Int) (xs : List (List T3)) : Int := if inkB xs = true ∧ xs.length ≠ 0 then medI (bxL f xs xs.length) else 0
def mhE (xs : List (List T3)) : Int := if inkB xs = true then (if xs.length = 0 then 6 else 0) else 1
theorem mh_bad {f : T4 → Int} {xs : List (List T3)} (h : inkB xs = false) : mhV f xs = 0 ∧ mhE xs = 1 := by unfold mhV mhE; rw [h]; exact ⟨rfl, rfl⟩
theorem mh_none {f : T4 → Int} {xs : List (List T3)} (h : inkB xs = true) (h2 : xs.length = 0) : mhV f xs = 0 ∧ mhE xs = 6 := by unfold mhV mhE; rw [h, h2]; exact ⟨rfl, rfl⟩
theorem mh_ok {f : T4 → Int} {xs : List (List T3)} {n : Nat} (hl : xs.length = n) (h : inkB xs = true) (h2 : n ≠ 0) : mhV f xs = medI (bxL f xs n) ∧ mhE xs = 0 := by
  unfold mhV mhE; rw [h, hl, if_pos ⟨rfl, h2⟩, if_pos rfl, if_neg h2]; exact ⟨rfl, rfl⟩
theorem ret2 {v v' e e' : Int} (h : v = v') (h' : e = e') : Ending.returned (.tuple #[.int .i64 v, .int .i64 e]) = Ending.returned (.tuple #[.int .i64 v', .int .i64 e']) := by rw [h, h']
theorem boxT3 (x y z t : Value) (Z : World) : Sem.run Try.prog (Instr.field 64 (.agg #[x, y, z, t]) 3) Z = .ok t Z := by kernel_rfl
theorem yOf_any (b : T4) (w : World) (h : okB b) : Calls Try.prog 52 #[.agg (v4 b)] w fun e w' => e = .returned (.int .i64 (fY b)) ∧ Below w.heap.size w w' := by
  obtain ⟨b1, b2, b3, b4⟩ := b
  go_enter Try.func52, Try.ntmps52
  go_wp2
  go_ret
  exact ⟨rfl, (by repeat (first | exact Below.refl _ _ | assumption | refine Below.drew ?_ | refine below_drewN ?_ _ | refine Below.alloc ?_ (by first | omega | (simp <;> omega)) _ | refine Below.setCell ?_ (by first | omega | (simp <;> omega)) _))⟩
theorem hOf_any (b : T4) (w : World) (h : okB b) : Calls Try.prog 53 #[.agg (v4 b)] w fun e w' => e = .returned (.int .i64 (fH b)) ∧ Below w.heap.size w w' := by
  obtain ⟨b1, b2, b3, b4⟩ := b
  have i1 : IntKind.i64.wrap (b4 - b2) = b4 - b2 := IntWalk.i64_in _ (by unfold okB at h; dsimp only at h; omega)
  go_enter Try.func53, Try.ntmps53
  go_wp2
  go_ret
  exact ⟨rfl, (by repeat (first | exact Below.refl _ _ | assumption | refine Below.drew ?_ | refine below_drewN ?_ _ | refine Below.alloc ?_ (by first | omega | (simp <;> omega)) _ | refine Below.setCell ?_ (by first | omega | (simp <;> omega)) _))⟩
set_option maxRecDepth 100000 in
set_option maxHeartbeats 8000000 in
theorem overY_any (A : Option Addr) (n c : Nat) (xs : List (List T3)) (w : World) (hr : NL w w.heap.size A n c xs) (hn : totL xs ≤ 1048576) :
    Calls Try.prog 51 #[.agg #[.slice A n c], .func (.func 52) #[] #[]] w fun e w' => e = .returned (.tuple #[.int .i64 (mhV fY xs), .int .i64 (mhE xs)]) ∧ Below w.heap.size w w' := by
  obtain ⟨i0, hi, hz0, hz1, hz2⟩ := info_parts Try.infoInt64
  have hl := Lib.hid hr.len
  go_enter Try.func51, Try.ntmps51
  go_wp2_with fail
  have K0 := Blk.new (w) 28 #[.slice A n c]
  have hbv : Below (w).heap.size (w) ((w).alloc (.cells #[.slice A n c] 28)) := (Below.refl _ _).alloc (Nat.le_refl _) _
  replace hr := hr.on hbv
  generalize (w).alloc (.cells #[.slice A n c] 28) = v at *
  have hB := hbv
  have e0 := K0.cell 0
  simp only [List.getElem?_toArray, List.getElem?_cons_zero] at e0
  go_wp2_with fail
  with_reducible refine (iValidInk_any _ _ _ xs _ hr hn).mono ?_
  rintro e w1 ⟨rfl, hb1⟩
  replace K0 := K0.on hb1
  replace hr := hr.on hb1
  replace hB := below_on hb1 hB
  clear e0 hb1 hbv
  have HR := Lib.hid hr
  clear hr
  cases hok : inkB xs with
  | false =>
    have F := Lib.hid (mh_bad (f := fY) hok)
    go_wp2
    go_ret2
    exact ⟨ret2 F.out.1.symm F.out.2.symm, hB⟩
  | true =>
    have Hok := Lib.hid hok
    have h16 := inkB_len hok
    rw [hl.out] at h16
    have e0 := K0.cell 0
    simp only [List.getElem?_toArray, List.getElem?_cons_zero] at e0
    by_cases hz : n = 0
    · have F := Lib.hid (mh_none (f := fY) hok (by rw [hl.out]; exact hz))
      subst hz
      go_wp2
      go_ret2
      exact ⟨ret2 F.out.1.symm F.out.2.symm, hB⟩
    · have F := Lib.hid (mh_ok (f := fY) hl.out hok hz)
      have z2 : ¬ (n : Int) = 0 := by omega
      have z4 : ((n : Int) == 0) = false := by simp; omega
      clear hok
      go_wp2
      clear e0
      go_loopw [6, 19] (fun q i wr => ∃ (k c' : Nat) (A' : Option Addr), k ≤ n ∧ i = .int .i64 k ∧ q = .slice A' k c' ∧ Below w1.heap.size w1 wr ∧ Hid (wr.ownsRow w1.heap.size 2 1 (.slice A' k c') k ((bxL fY xs k).flatMap c1))) (fun _ i _ => n - (intOf i).toNat)
      case atStart => exact ⟨0, 0, none, by omega, rfl, rfl, Below.refl _ _, World.ownsRow_nil _ _ _ _⟩
      case round =>
        obtain ⟨k, c', A', hk, rfl, rfl, hb, HW⟩ := hrel
        have hsz := hb.size
        by_cases hlt : k < n
        · obtain ⟨b, off, B', n', cc, x, rfl, hbl, hx, q0, hx3⟩ := (HR.out.on hb).at_ hlt
          have i1 : (k : Int) < (n : Int) := by omega
          have i2 : (0 : Int) ≤ (k : Int) := by omega
          have hs := inkB_at Hok.out hx.out
          have HT : Hid (bxL fY xs (k + 1) = bxL fY xs k ++ [fY (bxS x)]) := bxL_step hx.out
          have HX := Lib.hid hx3
          clear hx3
          go_wp2_with fail
          have P0 := Blk.new (wr) 52 #[.slice B' n' cc]
          have hbwa : Below (wr).heap.size (wr) ((wr).alloc (.cells #[.slice B' n' cc] 52)) := (Below.refl _ _).alloc (Nat.le_refl _) _
          generalize (wr).alloc (.cells #[.slice B' n' cc] 52) = wa at *
          have HX2 := Lib.hid (HX.out.on hbwa)
          have HWa := Lib.hid (own_below HW.out hbwa)
          have hba := below_app hb hbwa hsz
          have p0 := P0.cell 0
          simp only [List.getElem?_toArray, List.getElem?_cons_zero] at p0
          clear q0 HX HW
          go_wp2_with fail
          with_reducible refine (boxOfStroke_any _ _ _ x _ HX2.out hs).mono ?_
          rintro e w3 ⟨rfl, hb3⟩
          have HW3 := Lib.hid (own_below HWa.out hb3)
          have hba3 := below_app hba hb3 (by have := hba.size; omega)
          clear p0 hbwa hb3 HX2 HWa hba
          go_wp2_with fail
          with_reducible refine (yOf_any (bxS x) _ (bxS_ok hs)).mono ?_
          rintro e w4 ⟨rfl, hb4⟩
          have HW4 := Lib.hid (own_below HW3.out hb4)
          have hba4 := below_app hba3 hb4 (by have := hba3.size; omega)
          have hs4 := hba4.size
          clear hb4 hba3 HW3
          generalize fY (bxS x) = v9 at *
          go_wp2_with (at_builtin; with_reducible refine app_one _ c1_len oneI rfl (.tmp 23) (.tmp 28) 73 rfl w1.heap.size 2 i0 _ Try.underlyingInts hi hz0 hz1 hz2 rfl (by decide) (by decide) A' k c' (bxL fY xs k) rfl (HW4.out.alloc _) w4.heap.size 1 v9 rfl ?_ ?_ ?_ ?_)
          all_goals first | omega | (intro A2 c2 w5 (hw5 : (World.ownsRow _ _ _ _ _ _ _)) hb5) | (intro j u hu; have h8 := Cell1.new w4 2 v9 j u (by simpa using hu); simpa using h8) | (simp; omega)
          have hb6 : Below w1.heap.size w1 w5 := (hba4.alloc (by omega) _).trans hb5
          have O5 := Lib.hid hw5
          clear hw5 hb5
          go_wp2
          exact ⟨⟨k + 1, c2, A2, by omega, by go_num, rfl, hb6, by unfold Hid; rw [HT.out]; exact own_eqI O5.out (by simp)⟩, by simp [intOf]; omega⟩
        · have hkn : k = n := by omega
          subst hkn
          have hsz2 := hB.size
          go_wp2_with fail
          with_reducible refine (medianOf_any _ HW.out (bxL_len hl.out) (by omega) (by omega)).mono ?_
          rintro e w5 ⟨rfl, hb5⟩
          have hb6 := below_app hB (hb.trans hb5) hsz2
          clear hb5
          go_wp2
          go_ret2
          exact ⟨ret2 F.out.1.symm F.out.2.symm, hb6⟩
theorem iBaseLineOf_any (A : Option Addr) (n c : Nat) (xs : List (List T3)) (w : World) (hr : NL w w.heap.size A n c xs) (hn : totL xs ≤ 1048576) :
    Calls Try.prog 23 #[.agg #[.slice A n c]] w fun e w' => e = .returned (.tuple #[.int .i64 (mhV fY xs), .int .i64 (mhE xs)]) ∧ Below w.heap.size w w' := by
  go_enter Try.func23, Try.ntmps23
  go_wp2_with fail
  have K0 := Blk.new (w) 28 #[.slice A n c]
  have hbv : Below (w).heap.size (w) ((w).alloc (.cells #[.slice A n c] 28)) := (Below.refl _ _).alloc (Nat.le_refl _) _
  replace hr := hr.on hbv
  generalize (w).alloc (.cells #[.slice A n c] 28) = v at *
  have e0 := K0.cell 0
  simp only [List.getElem?_toArray, List.getElem?_cons_zero] at e0
  go_wp2_with fail
  with_reducible refine (overY_any _ _ _ xs _ hr hn).mono ?_
  rintro e w1 ⟨rfl, hb1⟩
  clear e0
  go_wp2
  go_ret2
  exact ⟨rfl, below_on hb1 hbv⟩
set_option maxRecDepth 100000 in
set_option maxHeartbeats 8000000 in
theorem overH_any (A : Option Addr) (n c : Nat) (xs : List (List T3)) (w : World) (hr : NL w w.heap.size A n c xs) (hn : totL xs ≤ 1048576) :
    Calls Try.prog 51 #[.agg #[.slice A n c], .func (.func 53) #[] #[]] w fun e w' => e = .returned (.tuple #[.int .i64 (mhV fH xs), .int .i64 (mhE xs)]) ∧ Below w.heap.size w w' := by
  obtain ⟨i0, hi, hz0, hz1, hz2⟩ := info_parts Try.infoInt64
  have hl := Lib.hid hr.len
  go_enter Try.func51, Try.ntmps51
  go_wp2_with fail
  have K0 := Blk.new (w) 28 #[.slice A n c]
  have hbv : Below (w).heap.size (w) ((w).alloc (.cells #[.slice A n c] 28)) := (Below.refl _ _).alloc (Nat.le_refl _) _
  replace hr := hr.on hbv
  generalize (w).alloc (.cells #[.slice A n c] 28) = v at *
  have hB := hbv
  have e0 := K0.cell 0
  simp only [List.getElem?_toArray, List.getElem?_cons_zero] at e0
  go_wp2_with fail
  with_reducible refine (iValidInk_any _ _ _ xs _ hr hn).mono ?_
  rintro e w1 ⟨rfl, hb1⟩
  replace K0 := K0.on hb1
  replace hr := hr.on hb1
  replace hB := below_on hb1 hB
  clear e0 hb1 hbv
  have HR := Lib.hid hr
  clear hr
  cases hok : inkB xs with
  | false =>
    have F := Lib.hid (mh_bad (f := fH) hok)
    go_wp2
    go_ret2
    exact ⟨ret2 F.out.1.symm F.out.2.symm, hB⟩
  | true =>
    have Hok := Lib.hid hok
    have h16 := inkB_len hok
    rw [hl.out] at h16
    have e0 := K0.cell 0
    simp only [List.getElem?_toArray, List.getElem?_cons_zero] at e0
    by_cases hz : n = 0
    · have F := Lib.hid (mh_none (f := fH) hok (by rw [hl.out]; exact hz))
      subst hz
      go_wp2
      go_ret2
      exact ⟨ret2 F.out.1.symm F.out.2.symm, hB⟩
    · have F := Lib.hid (mh_ok (f := fH) hl.out hok hz)
      have z2 : ¬ (n : Int) = 0 := by omega
      have z4 : ((n : Int) == 0) = false := by simp; omega
      clear hok
      go_wp2
      clear e0
      go_loopw [6, 19] (fun q i wr => ∃ (k c' : Nat) (A' : Option Addr), k ≤ n ∧ i = .int .i64 k ∧ q = .slice A' k c' ∧ Below w1.heap.size w1 wr ∧ Hid (wr.ownsRow w1.heap.size 2 1 (.slice A' k c') k ((bxL fH xs k).flatMap c1))) (fun _ i _ => n - (intOf i).toNat)
      case atStart => exact ⟨0, 0, none, by omega, rfl, rfl, Below.refl _ _, World.ownsRow_nil _ _ _ _⟩
      case round =>
        obtain ⟨k, c', A', hk, rfl, rfl, hb, HW⟩ := hrel
        have hsz := hb.size
        by_cases hlt : k < n
        · obtain ⟨b, off, B', n', cc, x, rfl, hbl, hx, q0, hx3⟩ := (HR.out.on hb).at_ hlt
          have i1 : (k : Int) < (n : Int) := by omega
          have i2 : (0 : Int) ≤ (k : Int) := by omega
          have hs := inkB_at Hok.out hx.out
          have HT : Hid (bxL fH xs (k + 1) = bxL fH xs k ++ [fH (bxS x)]) := bxL_step hx.out
          have HX := Lib.hid hx3
          clear hx3
          go_wp2_with fail
          have P0 := Blk.new (wr) 52 #[.slice B' n' cc]
          have hbwa : Below (wr).heap.size (wr) ((wr).alloc (.cells #[.slice B' n' cc] 52)) := (Below.refl _ _).alloc (Nat.le_refl _) _
          generalize (wr).alloc (.cells #[.slice B' n' cc] 52) = wa at *
          have HX2 := Lib.hid (HX.out.on hbwa)
          have HWa := Lib.hid (own_below HW.out hbwa)
          have hba := below_app hb hbwa hsz
          have p0 := P0.cell 0
          simp only [List.getElem?_toArray, List.getElem?_cons_zero] at p0
          clear q0 HX HW
          go_wp2_with fail
          with_reducible refine (boxOfStroke_any _ _ _ x _ HX2.out hs).mono ?_
          rintro e w3 ⟨rfl, hb3⟩
          have HW3 := Lib.hid (own_below HWa.out hb3)
          have hba3 := below_app hba hb3 (by have := hba.size; omega)
          clear p0 hbwa hb3 HX2 HWa hba
          go_wp2_with fail
          with_reducible refine (hOf_any (bxS x) _ (bxS_ok hs)).mono ?_
          rintro e w4 ⟨rfl, hb4⟩
          have HW4 := Lib.hid (own_below HW3.out hb4)
          have hba4 := below_app hba3 hb4 (by have := hba3.size; omega)
          have hs4 := hba4.size
          clear hb4 hba3 HW3
          generalize fH (bxS x) = v9 at *
          go_wp2_with (at_builtin; with_reducible refine app_one _ c1_len oneI rfl (.tmp 23) (.tmp 28) 73 rfl w1.heap.size 2 i0 _ Try.underlyingInts hi hz0 hz1 hz2 rfl (by decide) (by decide) A' k c' (bxL fH xs k) rfl (HW4.out.alloc _) w4.heap.size 1 v9 rfl ?_ ?_ ?_ ?_)
          all_goals first | omega | (intro A2 c2 w5 (hw5 : (World.ownsRow _ _ _ _ _ _ _)) hb5) | (intro j u hu; have h8 := Cell1.new w4 2 v9 j u (by simpa using hu); simpa using h8) | (simp; omega)
          have hb6 : Below w1.heap.size w1 w5 := (hba4.alloc (by omega) _).trans hb5
          have O5 := Lib.hid hw5
          clear hw5 hb5
          go_wp2
          exact ⟨⟨k + 1, c2, A2, by omega, by go_num, rfl, hb6, by unfold Hid; rw [HT.out]; exact own_eqI O5.out (by simp)⟩, by simp [intOf]; omega⟩
        · have hkn : k = n := by omega
          subst hkn
          have hsz2 := hB.size
          go_wp2_with fail
          with_reducible refine (medianOf_any _ HW.out (bxL_len hl.out) (by omega) (by omega)).mono ?_
          rintro e w5 ⟨rfl, hb5⟩
          have hb6 := below_app hB (hb.trans hb5) hsz2
          clear hb5
          go_wp2
          go_ret2
          exact ⟨ret2 F.out.1.symm F.out.2.symm, hb6⟩
theorem iMiddleHeight_any (A : Option Addr) (n c : Nat) (xs : List (List T3)) (w : World) (hr : NL w w.heap.size A n c xs) (hn : totL xs ≤ 1048576) :
    Calls Try.prog 25 #[.agg #[.slice A n c]] w fun e w' => e = .returned (.tuple #[.int .i64 (mhV fH xs), .int .i64 (mhE xs)]) ∧ Below w.heap.size w w' := by
  go_enter Try.func25, Try.ntmps25
  go_wp2_with fail
  have K0 := Blk.new (w) 28 #[.slice A n c]
  have hbv : Below (w).heap.size (w) ((w).alloc (.cells #[.slice A n c] 28)) := (Below.refl _ _).alloc (Nat.le_refl _) _
  replace hr := hr.on hbv
  generalize (w).alloc (.cells #[.slice A n c] 28) = v at *
  have e0 := K0.cell 0
  simp only [List.getElem?_toArray, List.getElem?_cons_zero] at e0
  go_wp2_with fail
  with_reducible refine (overH_any _ _ _ xs _ hr hn).mono ?_
  rintro e w1 ⟨rfl, hb1⟩
  clear e0
  go_wp2
  go_ret2
  exact ⟨rfl, below_on hb1 hbv⟩
set_option maxRecDepth 100000 in
set_option maxHeartbeats 8000000 in
theorem sBaseLineOf_any (A : Option Addr) (n c : Nat) (xs : List (List T3)) (w : World) (hr : NL w w.heap.size A n c xs) (hn : totL xs ≤ 1048576) :
    Calls Try.prog 22 #[.agg #[.slice A n c]] w fun e w' => e = .returned (.tuple #[.int .i64 (mhV fY xs), .int .i64 (mhE xs)]) ∧ Below w.heap.size w w' := by
  obtain ⟨i0, hi, hz0, hz1, hz2⟩ := info_parts Try.infoInt64
  have hl := Lib.hid hr.len
  go_enter Try.func22, Try.ntmps22
  go_wp2_with fail
  have K0 := Blk.new (w) 28 #[.slice A n c]
  have hbv : Below (w).heap.size (w) ((w).alloc (.cells #[.slice A n c] 28)) := (Below.refl _ _).alloc (Nat.le_refl _) _
  replace hr := hr.on hbv
  generalize (w).alloc (.cells #[.slice A n c] 28) = v at *
  have hB := hbv
  go_wp2_with fail
  with_reducible refine (l02Ok_ptr _ _ _ xs _ _ _ K0.cel hr hn).mono ?_
  rintro e w0 ⟨rfl, hb1⟩
  replace K0 := K0.on hb1
  replace hr := hr.on hb1
  replace hB := below_on hb1 hB
  clear hb1 hbv
  have HR := Lib.hid hr
  clear hr
  cases hok : inkB xs with
  | false =>
    have F := Lib.hid (mh_bad (f := fY) hok)
    go_wp2
    go_ret2
    exact ⟨ret2 F.out.1.symm F.out.2.symm, hB⟩
  | true =>
    have Hok := Lib.hid hok
    have h16 := inkB_len hok
    rw [hl.out] at h16
    have e0 := K0.cell 0
    simp only [List.getElem?_toArray, List.getElem?_cons_zero] at e0
    by_cases hz : n = 0
    · have F := Lib.hid (mh_none (f := fY) hok (by rw [hl.out]; exact hz))
      subst hz
      go_wp2
      go_ret2
      exact ⟨ret2 F.out.1.symm F.out.2.symm, hB⟩
    · have F := Lib.hid (mh_ok (f := fY) hl.out hok hz)
      have z2 : ¬ (n : Int) = 0 := by omega
      have z4 : ((n : Int) == 0) = false := by simp; omega
      clear hok
      go_wp2
      have HO := Lib.hid (lit_none w0 w0.heap.size (Nat.le_refl _))
      have Z0 := Blk.new (w0) 2 #[]
      have hbw1 : Below (w0).heap.size (w0) ((w0).alloc (.cells #[] 2)) := (Below.refl _ _).alloc (Nat.le_refl _) _
      generalize (w0).alloc (.cells #[] 2) = w1 at *
      clear e0 Z0
      go_loopw [4, 5] (fun q i wr => ∃ (k c' : Nat) (A' : Option Addr), k ≤ n ∧ i = .int .i64 k ∧ q = .slice A' k c' ∧ Below w0.heap.size w0 wr ∧ Hid (wr.ownsRow w0.heap.size 2 1 (.slice A' k c') k ((bxL fY xs k).flatMap c1))) (fun _ i _ => n - (intOf i).toNat)
      case atStart => exact ⟨0, 0, _, by omega, rfl, rfl, hbw1, HO.out⟩
      case round =>
        clear HO hbw1
        obtain ⟨k, c', A', hk, rfl, rfl, hb, HW⟩ := hrel
        have hsz := hb.size
        have K1 := K0.on hb
        have e0 := K1.cell 0
        simp only [List.getElem?_toArray, List.getElem?_cons_zero] at e0
        by_cases hlt : k < n
        · obtain ⟨b, off, B', n', cc, x, rfl, hbl, hx, q0, hx3⟩ := (HR.out.on hb).at_ hlt
          have i1 : (k : Int) < (n : Int) := by omega
          have i2 : (0 : Int) ≤ (k : Int) := by omega
          have hs := inkB_at Hok.out hx.out
          have HT : Hid (bxL fY xs (k + 1) = bxL fY xs k ++ [fY (bxS x)]) := bxL_step hx.out
          have HX := Lib.hid hx3
          have HC := Lib.hid (show Cel wr b (off + k) (.slice B' n' cc) from ⟨hbl, q0⟩)
          clear hx3 K1
          go_wp2_with fail
          with_reducible refine (l02BoxOf_ptr _ _ _ x _ _ _ HC.out HX.out hs).mono ?_
          rintro e w3 ⟨rfl, hb3⟩
          have HW3 := Lib.hid (own_below HW.out hb3)
          have hba3 := below_app hb hb3 hsz
          have hs3 := hba3.size
          clear q0 e0 hb3 HW
          obtain ⟨⟨b1, b2, b3, b4⟩, hbx⟩ : ∃ bx, bxS x = bx := ⟨_, rfl⟩
          rw [hbx] at HT
          rw [hbx]
          clear hbx
          have hfb := boxT3 (.int .i64 b1) (.int .i64 b2) (.int .i64 b3) (.int .i64 b4)
          go_wp2_with (at_builtin; with_reducible refine app_one _ c1_len oneI rfl (.tmp 20) (.tmp 27) 73 rfl w0.heap.size 2 i0 _ Try.underlyingInts hi hz0 hz1 hz2 rfl (by decide) (by decide) A' k c' (bxL fY xs k) rfl ((HW3.out).alloc _) w3.heap.size 1 b4 rfl ?_ ?_ ?_ ?_)
          all_goals first | omega | (intro A2 c2 w5 (hw5 : (World.ownsRow _ _ _ _ _ _ _)) hb5) | (intro j u hu; have h8 := Cell1.new w3 2 b4 j u (by simpa using hu); simpa using h8) | (simp; omega)
          have hb6 : Below w0.heap.size w0 w5 := (hba3.alloc (by first | omega | (simp; omega)) _).trans hb5
          have O5 := Lib.hid hw5
          clear hw5 hb5
          go_wp2
          exact ⟨⟨k + 1, c2, A2, by omega, by go_num, rfl, hb6, by unfold Hid; rw [HT.out]; exact own_eqI O5.out (by simp [fY, fH])⟩, by simp [intOf]; omega⟩
        · have hkn : k = n := by omega
          subst hkn
          have hsz2 := hB.size
          have hr9 := RdL.of_own (bxL_len hl.out) HW.out
          go_wp2_with fail
          with_reducible refine (l07Median_any _ _ _ _ _ hr9 (by omega) (by omega)).mono ?_
          rintro e w5 ⟨rfl, hb5⟩
          have hb6 := below_app hB (hb.trans (hb5.mono hsz)) hsz2
          clear hb5 e0 K1
          go_wp2
          go_ret2
          exact ⟨ret2 F.out.1.symm F.out.2.symm, hb6⟩
set_option maxRecDepth 100000 in
set_option maxHeartbeats 8000000 in
theorem sMiddleHeight_any (A : Option Addr) (n c : Nat) (xs : List (List T3)) (w : World) (hr : NL w w.heap.size A n c xs) (hn : totL xs ≤ 1048576) :
    Calls Try.prog 24 #[.agg #[.slice A n c]] w fun e w' => e = .returned (.tuple #[.int .i64 (mhV fH xs), .int .i64 (mhE xs)]) ∧ Below w.heap.size w w' := by
  obtain ⟨i0, hi, hz0, hz1, hz2⟩ := info_parts Try.infoInt64
  have hl := Lib.hid hr.len
  go_enter Try.func24, Try.ntmps24
  go_wp2_with fail
  have K0 := Blk.new (w) 28 #[.slice A n c]
  have hbv : Below (w).heap.size (w) ((w).alloc (.cells #[.slice A n c] 28)) := (Below.refl _ _).alloc (Nat.le_refl _) _
  replace hr := hr.on hbv
  generalize (w).alloc (.cells #[.slice A n c] 28) = v at *
  have hB := hbv
  go_wp2_with fail
  with_reducible refine (l02Ok_ptr _ _ _ xs _ _ _ K0.cel hr hn).mono ?_
  rintro e w0 ⟨rfl, hb1⟩
  replace K0 := K0.on hb1
  replace hr := hr.on hb1
  replace hB := below_on hb1 hB
  clear hb1 hbv
  have HR := Lib.hid hr
  clear hr
  cases hok : inkB xs with
  | false =>
    have F := Lib.hid (mh_bad (f := fH) hok)
    go_wp2
    go_ret2
    exact ⟨ret2 F.out.1.symm F.out.2.symm, hB⟩
  | true =>
    have Hok := Lib.hid hok
    have h16 := inkB_len hok
    rw [hl.out] at h16
    have e0 := K0.cell 0
    simp only [List.getElem?_toArray, List.getElem?_cons_zero] at e0
    by_cases hz : n = 0
    · have F := Lib.hid (mh_none (f := fH) hok (by rw [hl.out]; exact hz))
      subst hz
      go_wp2
      go_ret2
      exact ⟨ret2 F.out.1.symm F.out.2.symm, hB⟩
    · have F := Lib.hid (mh_ok (f := fH) hl.out hok hz)
      have z2 : ¬ (n : Int) = 0 := by omega
      have z4 : ((n : Int) == 0) = false := by simp; omega
      clear hok
      go_wp2
      have HO := Lib.hid (lit_none w0 w0.heap.size (Nat.le_refl _))
      have Z0 := Blk.new (w0) 2 #[]
      have hbw1 : Below (w0).heap.size (w0) ((w0).alloc (.cells #[] 2)) := (Below.refl _ _).alloc (Nat.le_refl _) _
      generalize (w0).alloc (.cells #[] 2) = w1 at *
      clear e0 Z0
      go_loopw [4, 5] (fun q i wr => ∃ (k c' : Nat) (A' : Option Addr), k ≤ n ∧ i = .int .i64 k ∧ q = .slice A' k c' ∧ Below w0.heap.size w0 wr ∧ Hid (wr.ownsRow w0.heap.size 2 1 (.slice A' k c') k ((bxL fH xs k).flatMap c1))) (fun _ i _ => n - (intOf i).toNat)
      case atStart => exact ⟨0, 0, _, by omega, rfl, rfl, hbw1, HO.out⟩
      case round =>
        clear HO hbw1
        obtain ⟨k, c', A', hk, rfl, rfl, hb, HW⟩ := hrel
        have hsz := hb.size
        have K1 := K0.on hb
        have e0 := K1.cell 0
        simp only [List.getElem?_toArray, List.getElem?_cons_zero] at e0
        by_cases hlt : k < n
        · obtain ⟨b, off, B', n', cc, x, rfl, hbl, hx, q0, hx3⟩ := (HR.out.on hb).at_ hlt
          have i1 : (k : Int) < (n : Int) := by omega
          have i2 : (0 : Int) ≤ (k : Int) := by omega
          have hs := inkB_at Hok.out hx.out
          have HT : Hid (bxL fH xs (k + 1) = bxL fH xs k ++ [fH (bxS x)]) := bxL_step hx.out
          have HX := Lib.hid hx3
          have HC := Lib.hid (show Cel wr b (off + k) (.slice B' n' cc) from ⟨hbl, q0⟩)
          clear hx3 K1
          go_wp2_with fail
          with_reducible refine (l02BoxOf_ptr _ _ _ x _ _ _ HC.out HX.out hs).mono ?_
          rintro e w3 ⟨rfl, hb3⟩
          have HW3 := Lib.hid (own_below HW.out hb3)
          have hba3 := below_app hb hb3 hsz
          have hs3 := hba3.size
          clear q0 e0 hb3 HW
          have hbo := bxS_ok hs
          obtain ⟨⟨b1, b2, b3, b4⟩, hbx⟩ : ∃ bx, bxS x = bx := ⟨_, rfl⟩
          rw [hbx] at HT hbo
          rw [hbx]
          clear hbx
          have w9 : IntKind.i64.wrap (b4 - b2) = b4 - b2 := IntWalk.i64_in _ (by unfold okB at hbo; dsimp only at hbo; omega)
          go_wp2_with (at_builtin; with_reducible refine app_one _ c1_len oneI rfl (.tmp 26) (.tmp 32) 73 rfl w0.heap.size 2 i0 _ Try.underlyingInts hi hz0 hz1 hz2 rfl (by decide) (by decide) A' k c' (bxL fH xs k) rfl ((HW3.out.alloc _).alloc _) (w3.heap.size + 1) 1 (b4 - b2) rfl ?_ ?_ ?_ ?_)
          all_goals first | omega | (intro A2 c2 w5 (hw5 : (World.ownsRow _ _ _ _ _ _ _)) hb5) | (intro j u hu; have h8 := Cell1.new (w3.alloc (.cells #[.int .i64 b1, .int .i64 b2, .int .i64 b3, .int .i64 b4] 64)) 2 (b4 - b2) j u (by simpa using hu); simpa using h8) | (simp; omega)
          have hb6 : Below w0.heap.size w0 w5 := ((hba3.alloc (by omega) _).alloc (by first | omega | (simp; omega)) _).trans hb5
          have O5 := Lib.hid hw5
          clear hw5 hb5
          go_wp2
          exact ⟨⟨k + 1, c2, A2, by omega, by go_num, rfl, hb6, by unfold Hid; rw [HT.out]; exact own_eqI O5.out (by simp [fY, fH])⟩, by simp [intOf]; omega⟩
        · have hkn : k = n := by omega
          subst hkn
          have hsz2 := hB.size
          have hr9 := RdL.of_own (bxL_len hl.out) HW.out
          go_wp2_with fail
          with_reducible refine (l07Median_any _ _ _ _ _ hr9 (by omega) (by omega)).mono ?_
          rintro e w5 ⟨rfl, hb5⟩
          have hb6 := below_app hB (hb.trans (hb5.mono hsz)) hsz2
          clear hb5 e0 K1
          go_wp2
          go_ret2
          exact ⟨ret2 F.out.1.symm F.out.2.symm, hb6⟩
end Go.Proofs.Ytbfilhpgekgmbaa
