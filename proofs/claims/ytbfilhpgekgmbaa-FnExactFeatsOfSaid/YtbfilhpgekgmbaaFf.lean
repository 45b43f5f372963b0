/- FeatsOf: over all strokes. -/
import Derived.Test.YtbfilhpgekgmbaaFo
namespace Go.Proofs.Ytbfilhpgekgmbaa
open Go.ChangeShapes Go.WideShapes Go.ChangeAt Go.RowKit
set_option linter.unusedVariables false
set_option linter.unusedSimpArgs false
theorem bx_all {xs : List (List T3)} {k : Nat} {x : List T3} (hx : xs[k]? = some x) : ∀ (j : Nat) (p : T3), x[j]? = some p → inBx p (bxI xs) := fun j p hp => bxI_in hx (List.mem_of_getElem? hp)
set_option maxRecDepth 100000 in
set_option maxHeartbeats 8000000 in
theorem iFeats_any (A : Option Addr) (n c : Nat) (xs : List (List T3)) (N : Int) (w : World) (hr : NL w w.heap.size A n c xs) (hn : totL xs ≤ 1048576) :
    Calls Try.prog 18 #[.agg #[.slice A n c], .int .i64 N] w fun e w' => ∃ A' n' c', e = .returned (.tuple #[.slice A' n' c', .int .i64 (foE N xs)]) ∧ w'.ownsRow w.heap.size 72 3 (.slice A' n' c') n' ((foL N xs).flatMap c3) ∧
      (foL N xs).length = n' ∧ n' ≤ 1048576 ∧ Below w.heap.size w w' := by
  obtain ⟨i0, hi, hz0, hz1, hz2⟩ := info_parts Try.infoFeatF
  have hl := Lib.hid hr.len
  go_enter Try.func18, Try.ntmps18
  go_wp2_with fail
  have K0 := Blk.new (w) 28 #[.slice A n c]
  have hbv : Below (w).heap.size (w) ((w).alloc (.cells #[.slice A n c] 28)) := (Below.refl _ _).alloc (Nat.le_refl _) _
  replace hr := hr.on hbv
  generalize (w).alloc (.cells #[.slice A n c] 28) = v at *
  have hB := hbv
  have e0 := K0.cell 0
  simp only [List.getElem?_toArray, List.getElem?_cons_zero] at e0
  go_wp2_with fail
  with_reducible refine (iValidInk_any _ _ _ xs _ hr hn).mono ?_
  rintro e w1 ⟨rfl, hb1⟩
  replace K0 := K0.on hb1
  replace hr := hr.on hb1
  replace hB := below_on hb1 hB
  clear e0 hb1 hbv
  have HR := Lib.hid hr
  clear hr
  have e0 := K0.cell 0
  simp only [List.getElem?_toArray, List.getElem?_cons_zero] at e0
  have ze := K0.lt
  cases hok : inkB xs with
  | false =>
    have F := Lib.hid (fo_bad (n := N) hok)
    go_wp2
    go_ret2
    rw [F.out.1, F.out.2]
    exact ⟨none, 0, 0, rfl, World.ownsRow_nil _ _ _ _, rfl, by decide, hB⟩
  | true =>
    have Hok := Lib.hid hok
    have h16 := inkB_len hok
    rw [hl.out] at h16
    cases h1 : inB 2 24 N with
    | false =>
      have F := Lib.hid (fo_far hok h1)
      have H1 := Lib.hid h1
      clear hok
      go_wp2_with (first | (go_at_call 33; with_reducible refine (within_any _ _ _ _).mono ?_; rw [H1.out]; rintro e w' ⟨rfl, rfl⟩))
      go_ret2
      rw [F.out.1, F.out.2]
      exact ⟨none, 0, 0, rfl, World.ownsRow_nil _ _ _ _, rfl, by decide, hB⟩
    | true =>
      have H1 := Lib.hid h1
      obtain ⟨a0, a1⟩ := inB_iff.1 h1
      by_cases hz : n = 0
      · have F := Lib.hid (fo_none hok h1 (by rw [hl.out]; exact hz))
        clear hok h1
        subst hz
        go_wp2_with (first | (go_at_call 33; with_reducible refine (within_any _ _ _ _).mono ?_; rw [H1.out]; rintro e w' ⟨rfl, rfl⟩))
        go_ret2
        rw [F.out.1, F.out.2]
        exact ⟨none, 0, 0, rfl, World.ownsRow_nil _ _ _ _, rfl, by decide, hB⟩
      · obtain ⟨m, rfl⟩ : ∃ m : Nat, N = m := ⟨N.toNat, by omega⟩
        have F := Lib.hid (fo_ok hok h1 (by rw [hl.out]; exact hz))
        have hbk := bxI_ok hok (by rw [hl.out]; exact hz)
        have HIN := Lib.hid (fun (k : Nat) (x : List T3) (hx : xs[k]? = some x) => bx_all hx)
        have HST : Hid (∀ (k : Nat) (x : List T3), xs[k]? = some x → fsI m xs (k + 1) = fsI m xs k ++ fsS m (bxI xs) x) := fun k x hx => fsI_step hx
        have HLN : Hid (∀ k, k ≤ n → (fsI m xs k).length = k * m) := fun k hk => fsI_len (by rw [hl.out]; exact hk)
        have hm2 : 2 ≤ m := by omega
        have hm24 : m ≤ 24 := by omega
        obtain ⟨⟨b1, b2, b3, b4⟩, hbx⟩ : ∃ bx, bxI xs = bx := ⟨_, rfl⟩
        rw [hbx] at HIN hbk HST
        have HBX := Lib.hid hbx
        have z2 : ¬ (n : Int) = 0 := by omega
        have z4 : ((n : Int) == 0) = false := by simp; omega
        clear hok h1 hbx
        go_wp2_with (first | (go_at_call 33; with_reducible refine (within_any _ _ _ _).mono ?_; rw [H1.out]; rintro e w' ⟨rfl, rfl⟩) | (go_at_call 43; fail))
        with_reducible refine (boxOfInk_any _ _ _ xs _ HR.out Hok.out (by omega)).mono ?_
        rw [HBX.out]
        rintro e w2 ⟨rfl, hb2⟩
        replace K0 := K0.on hb2
        have HR2 := Lib.hid (HR.out.on hb2)
        replace hB := below_on hb2 hB
        clear e0 hb2
        have e0 := K0.cell 0
        simp only [List.getElem?_toArray, List.getElem?_cons_zero] at e0
        have ze2 := K0.lt
        go_wp2_with fail
        have J0 := Blk.new (w2) 64 #[.int .i64 b1, .int .i64 b2, .int .i64 b3, .int .i64 b4]
        have hbw3 : Below (w2).heap.size (w2) ((w2).alloc (.cells #[.int .i64 b1, .int .i64 b2, .int .i64 b3, .int .i64 b4] 64)) := (Below.refl _ _).alloc (Nat.le_refl _) _
        generalize (w2).alloc (.cells #[.int .i64 b1, .int .i64 b2, .int .i64 b3, .int .i64 b4] 64) = w3 at *
        have HR3 := Lib.hid (HR2.out.on hbw3)
        replace hB := below_on hbw3 hB
        clear e0 hbw3 K0
        go_loopw [7, 28] (fun q i wr => ∃ (k km c' : Nat) (A' : Option Addr), k ≤ n ∧ k * m = km ∧ i = .int .i64 k ∧ q = .slice A' km c' ∧ Below w3.heap.size w3 wr ∧ Hid (wr.ownsRow w3.heap.size 72 3 (.slice A' km c') km ((fsI m xs k).flatMap c3))) (fun _ i _ => n - (intOf i).toNat)
        case atStart => exact ⟨0, 0, 0, none, by omega, by omega, rfl, rfl, Below.refl _ _, World.ownsRow_nil _ _ _ _⟩
        case round =>
          obtain ⟨k, km, c', A', hk, hkm, rfl, rfl, hb, HW⟩ := hrel
          have hsz := hb.size
          have hkmb : km ≤ 384 := by have := Nat.mul_le_mul (show k ≤ 16 by omega) hm24; omega
          by_cases hlt : k < n
          · obtain ⟨b, off, B', n', cc, x, rfl, hbl, hx, q0, hx3⟩ := (HR3.out.on hb).at_ hlt
            have i1 : (k : Int) < (n : Int) := by omega
            have i2 : (0 : Int) ≤ (k : Int) := by omega
            have hs := inkB_at Hok.out hx.out
            have HT := Lib.hid (HST.out k x hx.out)
            have HX := Lib.hid hx3
            have hkm2 : (k + 1) * m = km + m := by rw [Nat.succ_mul, hkm]
            have Jw := J0.on hb
            have j0 := Jw.cell 0
            have j1 := Jw.cell 1
            have j2 := Jw.cell 2
            have j3 := Jw.cell 3
            simp only [List.getElem?_toArray, List.getElem?_cons_succ, List.getElem?_cons_zero] at j0 j1 j2 j3
            have zj := Jw.lt
            clear hx3 hkm
            go_wp2_with fail
            have P0 := Blk.new (wr) 52 #[.slice B' n' cc]
            have hbwa : Below (wr).heap.size (wr) ((wr).alloc (.cells #[.slice B' n' cc] 52)) := (Below.refl _ _).alloc (Nat.le_refl _) _
            generalize (wr).alloc (.cells #[.slice B' n' cc] 52) = wa at *
            have HX2 := Lib.hid (HX.out.on hbwa)
            have HWa := Lib.hid (own_below HW.out hbwa)
            have hba := below_app hb hbwa hsz
            clear q0 HX HW
            with_reducible refine (featsOfStroke_any _ _ _ x b1 b2 b3 b4 m _ HX2.out hs hbk (HIN.out k x hx.out) hm2 hm24).mono ?_
            rintro e w4 ⟨A3, c3', rfl, o3, hb4⟩
            obtain ⟨g3, rfl, hg30, hg31⟩ := own_at o3 (by omega)
            have HW4 := Lib.hid (own_below HWa.out hb4)
            have O3 := Lib.hid o3
            have hba4 := below_app hba hb4 (by have := hba.size; omega)
            have hs4 := hba4.size
            clear j0 j1 j2 j3 hbwa hb4 HX2 HWa hba o3
            go_wp2_with (at_builtin; with_reducible refine app_moreF _ c3_len one3 rfl (.tmp 32) (.tmp 36) 37 rfl w3.heap.size 72 i0 _ Try.underFeats hi hz0 hz1 hz2 rfl (by decide) (by decide) A' km c' (fsI m xs k) rfl HW4.out g3 0 m c3' (fsS m (b1, b2, b3, b4) x) rfl (fsS_len _ _ _) (cellsF O3.out (Below.refl _ _)) (km + m) rfl (by omega) hs4 ?_)
            intro A5 c5 w5 (hw5 : (World.ownsRow _ _ _ _ _ _ _)) hb5
            have hb6 : Below w3.heap.size w3 w5 := hba4.trans hb5
            have O5 := Lib.hid hw5
            clear hw5 hb5
            go_wp2
            exact ⟨⟨k + 1, km + m, c5, A5, by omega, hkm2, by go_num, rfl, hb6, by show World.ownsRow _ _ _ _ _ _ _; rw [HT.out, List.flatMap_append]; exact O5.out⟩, by simp [intOf]; omega⟩
          · have hkn : k = n := by omega
            subst hkn
            have hLL := HLN.out k (Nat.le_refl _)
            have HLL := Lib.hid (hLL.trans hkm)
            have hsz2 := hB.size
            go_wp2
            go_ret2
            rw [F.out.1, F.out.2, hl.out]
            exact ⟨A', km, c', rfl, own_mono HW.out hsz2, HLL.out, by omega, below_app hB hb hsz2⟩
set_option maxRecDepth 100000 in
set_option maxHeartbeats 8000000 in
theorem l08Of_ptr (A : Option Addr) (n c : Nat) (xs : List (List T3)) (m : Nat) (w : World) (gk oo : Nat) (K0 : Cel w gk oo (.slice A n c)) (hr : NL w w.heap.size A n c xs) (hok : inkB xs = true) (h0 : 0 < n) (hm2 : 2 ≤ m) (hm24 : m ≤ 24) :
    Calls Try.prog 46 #[.pointer (some ⟨gk, oo, none⟩), .int .i64 (m : Int)] w fun e w' => ∃ A' c', e = .returned (.slice A' (n * m) c') ∧ w'.ownsRow w.heap.size 72 3 (.slice A' (n * m) c') (n * m) ((fsI m xs n).flatMap c3) ∧ Below w.heap.size w w' := by
  obtain ⟨i0, hi, hz0, hz1, hz2⟩ := info_parts Try.infoFeatF
  have hl := Lib.hid hr.len
  have h16 := inkB_len hok
  rw [hl.out] at h16
  have Hok := Lib.hid hok
  have HR := Lib.hid hr
  have hbk := bxI_ok hok (by rw [hl.out]; omega)
  have HIN := Lib.hid (fun (k : Nat) (x : List T3) (hx : xs[k]? = some x) => bx_all hx)
  have HST : Hid (∀ (k : Nat) (x : List T3), xs[k]? = some x → fsI m xs (k + 1) = fsI m xs k ++ fsS m (bxI xs) x) := fun k x hx => fsI_step hx
  obtain ⟨⟨b1, b2, b3, b4⟩, hbx⟩ : ∃ bx, bxI xs = bx := ⟨_, rfl⟩
  rw [hbx] at HIN hbk HST
  have HBX := Lib.hid hbx
  have hcap : n ≤ 9223372036854775807 := by omega
  clear hr hok hbx
  go_enter Try.func46, Try.ntmps46
  go_wp2_with fail
  with_reducible refine (l02All_ptr _ _ _ xs _ _ _ K0 HR.out Hok.out h0).mono ?_
  rw [HBX.out]
  rintro e w1 ⟨rfl, hb1⟩
  replace K0 := K0.on hb1
  have HR1 := Lib.hid (HR.out.on hb1)
  go_wp2_with fail
  have hsz9 : (w1.alloc (.cells #[.int .i64 b1, .int .i64 b2, .int .i64 b3, .int .i64 b4] 64)).heap.size = w1.heap.size + 1 := by simp
  have J0 := Blk.new (w1) 64 #[.int .i64 b1, .int .i64 b2, .int .i64 b3, .int .i64 b4]
  have hbw2 : Below (w1).heap.size (w1) ((w1).alloc (.cells #[.int .i64 b1, .int .i64 b2, .int .i64 b3, .int .i64 b4] 64)) := (Below.refl _ _).alloc (Nat.le_refl _) _
  replace K0 := K0.on hbw2
  generalize (w1).alloc (.cells #[.int .i64 b1, .int .i64 b2, .int .i64 b3, .int .i64 b4] 64) = w2 at *
  have HR2 := Lib.hid (HR1.out.on hbw2)
  have hB := below_on hbw2 hb1
  have hlit : (w2.alloc (.cells #[] 72)).ownsRow w2.heap.size 72 3 (.slice (some ⟨w1.heap.size + 1, 0, none⟩) 0 0) 0 ((fsI m xs 0).flatMap c3) := by rw [← hsz9]; simpa [fsI] using World.ownsRow_lit (base := w2.heap.size) (e := 72) (size := 3) w2 #[] 0 (Nat.le_refl _) (by simp [maxLen]) rfl
  have HL := Lib.hid hlit
  clear hlit hb1 hbw2 hsz9
  go_loopw [6, 7] (fun q i wr => ∃ (k km c' : Nat) (A' : Option Addr), k ≤ n ∧ k * m = km ∧ i = .int .i64 k ∧ q = .slice A' km c' ∧ Below w2.heap.size w2 wr ∧ Hid (wr.ownsRow w2.heap.size 72 3 (.slice A' km c') km ((fsI m xs k).flatMap c3))) (fun _ i _ => n - (intOf i).toNat)
  case atStart => exact ⟨0, 0, 0, _, by omega, by omega, rfl, rfl, (Below.refl _ _).alloc (Nat.le_refl _) _, HL.out⟩
  case round =>
    obtain ⟨k, km, c', A', hk, hkm, rfl, rfl, hb, HW⟩ := hrel
    have hsz := hb.size
    have K1 := K0.on hb
    have e0 := K1.cell
    have ze := K1.lt
    have hkmb : km ≤ 384 := by have := Nat.mul_le_mul (show k ≤ 16 by omega) hm24; omega
    by_cases hlt : k < n
    · obtain ⟨b, off, B', n', cc, x, rfl, hbl, hx, q0, hx3⟩ := HR2.out.at_ hlt
      have i1 : (k : Int) < (n : Int) := by omega
      have i2 : (0 : Int) ≤ (k : Int) := by omega
      have hs := inkB_at Hok.out hx.out
      have HT := Lib.hid (HST.out k x hx.out)
      have HX := Lib.hid hx3
      have HC := Lib.hid (show Cel w2 b (off + k) (.slice B' n' cc) from ⟨hbl, q0⟩)
      have hkm2 : (k + 1) * m = km + m := by rw [Nat.succ_mul, hkm]
      clear hx3 hkm
      go_wp2_with fail
      clear e0 ze K1
      have e0 := K0.cell
      have ze := K0.lt
      have j0 := J0.cell 0
      have j1 := J0.cell 1
      have j2 := J0.cell 2
      have j3 := J0.cell 3
      simp only [List.getElem?_toArray, List.getElem?_cons_succ, List.getElem?_cons_zero] at j0 j1 j2 j3
      have zj := J0.lt
      go_region_held3 (fun w' => (∀ b o, b < w2.heap.size → w'.cell? ⟨b, o, none⟩ = w2.cell? ⟨b, o, none⟩) ∧ Below w2.heap.size w2 w') (first | exact sk hb.drew | (go_split_ands; first | exact sk (below_app ‹_› hbw3 (Below.size ‹_›)) | exact sk (Below.trans ‹_› hbw4))) (first | ((refine step_moreF _ c3_len one3 (by rfl) (.tmp 20) (.tmp 29) 37 (by rfl) w2.heap.size 72 i0 _ Try.underFeats hi hz0 hz1 hz2 rfl (by decide) (by decide) A' km c' (fsI m xs k) (by rfl) (own_below (own_below HW.out ((Below.refl _ _).drew)) hbw3) g3 0 m c3' (fsS m (b1, b2, b3, b4) x) (by rfl) (fsS_len _ _ _) (cellsF o3 (Below.refl _ _)) (km + m) rfl (by omega) (by have := hbw3.size; simp at this ⊢; omega) ?_; intro A5 c5 w4 hw4 hbw4)) | (go_at_call 71; with_reducible refine (l08Stroke_ptr _ _ _ x b1 b2 b3 b4 m _ _ _ (HC.out.on hb.drew) (HX.out.on hb.drew) hs hbk (HIN.out k x hx.out) hm2 hm24).mono ?_; rintro e w3 ⟨A3, c3', rfl, o3, hbw3⟩; obtain ⟨g3, rfl, hg30, hg31⟩ := own_at o3 (by omega)))
      go_split_ands
      have hb4 : Below w2.heap.size w2 w4 := ‹_›
      have O5 := Lib.hid hw4
      clear hw4
      go_wp2
      exact ⟨⟨k + 1, km + m, c5, A5, by omega, hkm2, by go_num, rfl, hb4, by show World.ownsRow _ _ _ _ _ _ _; rw [HT.out]; exact O5.out⟩, by simp [intOf]; omega⟩
    · have hkn : k = n := by omega
      subst hkn
      subst hkm
      have hsz2 := hB.size
      go_wp2
      go_ret
      exact ⟨A', c', rfl, own_mono HW.out hsz2, below_app hB hb hsz2⟩
set_option maxRecDepth 100000 in
set_option maxHeartbeats 8000000 in
theorem sFeats_any (A : Option Addr) (n c : Nat) (xs : List (List T3)) (N : Int) (w : World) (hr : NL w w.heap.size A n c xs) (hn : totL xs ≤ 1048576) :
    Calls Try.prog 17 #[.agg #[.slice A n c], .int .i64 N] w fun e w' => ∃ A' n' c', e = .returned (.tuple #[.slice A' n' c', .int .i64 (foE N xs)]) ∧ w'.ownsRow w.heap.size 72 3 (.slice A' n' c') n' ((foL N xs).flatMap c3) ∧
      (foL N xs).length = n' ∧ n' ≤ 1048576 ∧ Below w.heap.size w w' := by
  have hl := Lib.hid hr.len
  go_enter Try.func17, Try.ntmps17
  go_wp2_with fail
  have K0 := Blk.new (w) 28 #[.slice A n c]
  have hbv : Below (w).heap.size (w) ((w).alloc (.cells #[.slice A n c] 28)) := (Below.refl _ _).alloc (Nat.le_refl _) _
  replace hr := hr.on hbv
  generalize (w).alloc (.cells #[.slice A n c] 28) = v at *
  have hB := hbv
  go_wp2_with fail
  with_reducible refine (l02Ok_ptr _ _ _ xs _ _ _ K0.cel hr hn).mono ?_
  rintro e w1 ⟨rfl, hb1⟩
  replace K0 := K0.on hb1
  replace hr := hr.on hb1
  replace hB := below_on hb1 hB
  clear hb1 hbv
  have HR := Lib.hid hr
  clear hr
  have e0 := K0.cell 0
  simp only [List.getElem?_toArray, List.getElem?_cons_zero] at e0
  have ze := K0.lt
  cases hok : inkB xs with
  | false =>
    have F := Lib.hid (fo_bad (n := N) hok)
    go_wp2
    go_ret2
    rw [F.out.1, F.out.2]
    exact ⟨none, 0, 0, rfl, World.ownsRow_nil _ _ _ _, rfl, by decide, hB⟩
  | true =>
    have Hok := Lib.hid hok
    have h16 := inkB_len hok
    rw [hl.out] at h16
    cases h1 : inB 2 24 N with
    | false =>
      have F := Lib.hid (fo_far hok h1)
      have H1 := Lib.hid h1
      clear hok
      go_wp2_with (first | (go_at_call 28; with_reducible refine (l00In_any _ _ _ _).mono ?_; rw [H1.out]; rintro e w' ⟨rfl, rfl⟩))
      go_ret2
      rw [F.out.1, F.out.2]
      exact ⟨none, 0, 0, rfl, World.ownsRow_nil _ _ _ _, rfl, by decide, hB⟩
    | true =>
      have H1 := Lib.hid h1
      obtain ⟨a0, a1⟩ := inB_iff.1 h1
      by_cases hz : n = 0
      · have F := Lib.hid (fo_none hok h1 (by rw [hl.out]; exact hz))
        clear hok h1
        subst hz
        go_wp2_with (first | (go_at_call 28; with_reducible refine (l00In_any _ _ _ _).mono ?_; rw [H1.out]; rintro e w' ⟨rfl, rfl⟩))
        go_ret2
        rw [F.out.1, F.out.2]
        exact ⟨none, 0, 0, rfl, World.ownsRow_nil _ _ _ _, rfl, by decide, hB⟩
      · obtain ⟨m, rfl⟩ : ∃ m : Nat, N = m := ⟨N.toNat, by omega⟩
        have F := Lib.hid (fo_ok hok h1 (by rw [hl.out]; exact hz))
        have hLL := Lib.hid (fsI_len (m := m) (xs := xs) (k := n) (by rw [hl.out]; exact Nat.le_refl _))
        have hnm : n * m ≤ 384 := by have := Nat.mul_le_mul (show n ≤ 16 by omega) (show m ≤ 24 by omega); omega
        have z2 : ¬ (n : Int) = 0 := by omega
        have z4 : ((n : Int) == 0) = false := by simp; omega
        clear hok h1
        go_wp2_with (first | (go_at_call 28; with_reducible refine (l00In_any _ _ _ _).mono ?_; rw [H1.out]; rintro e w' ⟨rfl, rfl⟩) | (go_at_call 46; fail))
        with_reducible refine (l08Of_ptr _ _ _ xs m _ _ _ K0.cel HR.out Hok.out (by omega) (by omega) (by omega)).mono ?_
        rintro e w2 ⟨A2, c2, rfl, o2, hb2⟩
        have O2 := Lib.hid o2
        have hzw := hB.size
        have hB2 := below_on hb2 hB
        clear o2 hb2
        go_wp2
        go_ret2
        rw [F.out.1, F.out.2, hl.out]
        exact ⟨A2, n * m, c2, rfl, own_mono O2.out hzw, hLL.out, by omega, hB2⟩
end Go.Proofs.Ytbfilhpgekgmbaa
