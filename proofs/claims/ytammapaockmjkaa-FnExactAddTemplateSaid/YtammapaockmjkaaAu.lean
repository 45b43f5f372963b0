/- AddTemplate: the reference's. -/
import Derived.Test.YtammapaockmjkaaAt
import Derived.Test.YtammapaockmjkaaOl
namespace Go.Proofs.Ytammapaockmjkaa
open Go.ChangeShapes Go.WideShapes Go.ChangeAt Go.RowKit
set_option linter.unusedVariables false
set_option linter.unusedSimpArgs false
set_option maxRecDepth 100000 in
set_option maxHeartbeats 8000000 in
theorem sAdd_any (z : Int) (A : Option Addr) (m cb : Nat) (ts : List TV) (s : ByteArray) (B : Option Addr) (n ca : Nat) (x : List T3) (w : World) (hr : TL w w.heap.size A m cb ts) (hm : totT ts ≤ 1048576) (hs : s.size ≤ maxLen) (hx : RdL c3 3 w w.heap.size B n ca x) (hn : n ≤ 1048576) :
    Calls Try.prog 33 #[.agg #[.int .i64 z, .slice A m cb], .agg #[.string s, .slice B n ca]] w fun e w' => ∃ (A' : Option Addr) (n' c' : Nat) (hs : List HT), e = .returned (.tuple #[.agg #[.int .i64 (addZ z ts (s, x)), .slice A' n' c'], .int .i64 (addE z ts (s, x))]) ∧
      TS w' w.heap.size 58 109 A' n' c' hs (addL z ts (s, x)) ∧ Below w.heap.size w w' := by
  obtain ⟨i0, hi, hz0, hz1, hz2⟩ := info_parts Try.infoTempl
  obtain ⟨iF, ki, kz0, kz1, kz2⟩ := info_parts (show (Try.prog.info? 109).map (fun i => (i.zero, i.size, i.bytes)) = some (some (.agg #[.int .i64 0, .int .i64 0, .int .i64 0]), 3, 24) by kernel_rfl)
  have hl := Lib.hid hr.len
  have hxl := Lib.hid hx.len
  have HM := Lib.hid hm
  have HSS := Lib.hid hs
  clear hm hs
  cases h0 : storeB z ts with
  | false =>
    have F := Lib.hid (add_bad (x := (s, x)) (show (storeB z ts && tmplB (s, x)) = false by rw [h0]; rfl))
    have H0 := Lib.hid h0
    clear h0
    go_enter Try.func33, Try.ntmps33
    go_wp2_with fail
    have P0 : Blk (((w.alloc (.cells #[.int .i64 z, .slice A m cb] 31)).alloc (.cells #[.string s, .slice B n ca] 58)).alloc (.cells #[.int .i64 0, .slice none 0 0] 31)) (w.heap.size) 31 #[.int .i64 z, .slice A m cb] := by have hk := ((Blk.new w 31 #[.int .i64 z, .slice A m cb]).alloc (.cells #[.string s, .slice B n ca] 58)).alloc (.cells #[.int .i64 0, .slice none 0 0] 31); simpa using hk
    have T0 : Blk (((w.alloc (.cells #[.int .i64 z, .slice A m cb] 31)).alloc (.cells #[.string s, .slice B n ca] 58)).alloc (.cells #[.int .i64 0, .slice none 0 0] 31)) (w.heap.size + 1) 58 #[.string s, .slice B n ca] := by have hk := (Blk.new (w.alloc (.cells #[.int .i64 z, .slice A m cb] 31)) 58 #[.string s, .slice B n ca]).alloc (.cells #[.int .i64 0, .slice none 0 0] 31); simpa using hk
    have R0 : Blk (((w.alloc (.cells #[.int .i64 z, .slice A m cb] 31)).alloc (.cells #[.string s, .slice B n ca] 58)).alloc (.cells #[.int .i64 0, .slice none 0 0] 31)) (w.heap.size + 1 + 1) 31 #[.int .i64 0, .slice none 0 0] := by have hk := Blk.new ((w.alloc (.cells #[.int .i64 z, .slice A m cb] 31)).alloc (.cells #[.string s, .slice B n ca] 58)) 31 #[.int .i64 0, .slice none 0 0]; simpa using hk
    have hbv : Below w.heap.size w (((w.alloc (.cells #[.int .i64 z, .slice A m cb] 31)).alloc (.cells #[.string s, .slice B n ca] 58)).alloc (.cells #[.int .i64 0, .slice none 0 0] 31)) := (by repeat (first | exact Below.refl _ _ | assumption | refine Below.drew ?_ | refine below_drewN ?_ _ | refine Below.alloc ?_ (by first | omega | (simp <;> omega)) _ | refine Below.setCell ?_ (by first | omega | (simp <;> omega)) _))
    replace hr := hr.on hbv
    replace hx := hx.on hbv
    generalize (((w.alloc (.cells #[.int .i64 z, .slice A m cb] 31)).alloc (.cells #[.string s, .slice B n ca] 58)).alloc (.cells #[.int .i64 0, .slice none 0 0] 31)) = v at *
    with_reducible refine (l11Ok_ptr z _ _ _ ts _ _ (Blk.at2 P0).1 (Blk.at2 P0).2 hr HM.out).mono ?_
    rintro e w1 ⟨rfl, hb1⟩
    rw [H0.out]
    replace R0 := R0.on hb1
    replace hbv := below_on hb1 hbv
    have r0 := R0.cell 0
    have r1 := R0.cell 1
    simp only [List.getElem?_toArray, List.getElem?_cons_succ, List.getElem?_cons_zero] at r0 r1
    have f0 := R0.frozen 0
    have f1 := R0.frozen 1
    have zr := R0.lt
    clear hr hx
    go_wp2
    rw [F.out.1, F.out.2.1, F.out.2.2]
    exact bodyPost_ret (v := .tuple #[.agg #[.int .i64 0, .slice none 0 0], .int .i64 1]) (by simp [results, Try.results33, go_sem, r0, r1]) rfl ⟨none, 0, 0, [], rfl, TS.nil _ _ _ _, (hbv.setCell (by simp only; omega) _).setCell (by simp only; omega) _⟩
  | true =>
    cases h1 : tmplB (s, x) with
    | false =>
      have F := Lib.hid (add_bad (z := z) (ts := ts) (show (storeB z ts && tmplB (s, x)) = false by rw [h1, Bool.and_false]))
      have H0 := Lib.hid h0
      have H1 := Lib.hid h1
      clear h0 h1
      go_enter Try.func33, Try.ntmps33
      go_wp2_with fail
      have P0 : Blk (((w.alloc (.cells #[.int .i64 z, .slice A m cb] 31)).alloc (.cells #[.string s, .slice B n ca] 58)).alloc (.cells #[.int .i64 0, .slice none 0 0] 31)) (w.heap.size) 31 #[.int .i64 z, .slice A m cb] := by have hk := ((Blk.new w 31 #[.int .i64 z, .slice A m cb]).alloc (.cells #[.string s, .slice B n ca] 58)).alloc (.cells #[.int .i64 0, .slice none 0 0] 31); simpa using hk
      have T0 : Blk (((w.alloc (.cells #[.int .i64 z, .slice A m cb] 31)).alloc (.cells #[.string s, .slice B n ca] 58)).alloc (.cells #[.int .i64 0, .slice none 0 0] 31)) (w.heap.size + 1) 58 #[.string s, .slice B n ca] := by have hk := (Blk.new (w.alloc (.cells #[.int .i64 z, .slice A m cb] 31)) 58 #[.string s, .slice B n ca]).alloc (.cells #[.int .i64 0, .slice none 0 0] 31); simpa using hk
      have R0 : Blk (((w.alloc (.cells #[.int .i64 z, .slice A m cb] 31)).alloc (.cells #[.string s, .slice B n ca] 58)).alloc (.cells #[.int .i64 0, .slice none 0 0] 31)) (w.heap.size + 1 + 1) 31 #[.int .i64 0, .slice none 0 0] := by have hk := Blk.new ((w.alloc (.cells #[.int .i64 z, .slice A m cb] 31)).alloc (.cells #[.string s, .slice B n ca] 58)) 31 #[.int .i64 0, .slice none 0 0]; simpa using hk
      have hbv : Below w.heap.size w (((w.alloc (.cells #[.int .i64 z, .slice A m cb] 31)).alloc (.cells #[.string s, .slice B n ca] 58)).alloc (.cells #[.int .i64 0, .slice none 0 0] 31)) := (by repeat (first | exact Below.refl _ _ | assumption | refine Below.drew ?_ | refine below_drewN ?_ _ | refine Below.alloc ?_ (by first | omega | (simp <;> omega)) _ | refine Below.setCell ?_ (by first | omega | (simp <;> omega)) _))
      replace hr := hr.on hbv
      replace hx := hx.on hbv
      generalize (((w.alloc (.cells #[.int .i64 z, .slice A m cb] 31)).alloc (.cells #[.string s, .slice B n ca] 58)).alloc (.cells #[.int .i64 0, .slice none 0 0] 31)) = v at *
      with_reducible refine (l11Ok_ptr z _ _ _ ts _ _ (Blk.at2 P0).1 (Blk.at2 P0).2 hr HM.out).mono ?_
      rintro e w1 ⟨rfl, hb1⟩
      rw [H0.out]
      replace R0 := R0.on hb1
      replace T0 := T0.on hb1
      replace hx := hx.on hb1
      replace hbv := below_on hb1 hbv
      have t0 := T0.cell 0
      have t1 := T0.cell 1
      simp only [List.getElem?_toArray, List.getElem?_cons_succ, List.getElem?_cons_zero] at t0 t1
      have zt := T0.lt
      go_wp2_with fail
      with_reducible refine (l11Template_ptr s _ _ _ x _ _ _ (Blk.at2 T0).1.cell (Blk.at2 T0).2.cell HSS.out hx hn).mono ?_
      rintro e w2 ⟨rfl, hbw2⟩
      rw [H1.out]
      replace R0 := R0.on hbw2
      replace hbv := below_on hbw2 hbv
      clear t0 t1 zt
      have r0 := R0.cell 0
      have r1 := R0.cell 1
      simp only [List.getElem?_toArray, List.getElem?_cons_succ, List.getElem?_cons_zero] at r0 r1
      have f0 := R0.frozen 0
      have f1 := R0.frozen 1
      have zr := R0.lt
      clear hr hx
      go_wp2
      rw [F.out.1, F.out.2.1, F.out.2.2]
      exact bodyPost_ret (v := .tuple #[.agg #[.int .i64 0, .slice none 0 0], .int .i64 1]) (by simp [results, Try.results33, go_sem, r0, r1]) rfl ⟨none, 0, 0, [], rfl, TS.nil _ _ _ _, (hbv.setCell (by simp only; omega) _).setCell (by simp only; omega) _⟩
    | true =>
      have hpos : 0 < n := by have h := featsOk_pos (show featsOk 72 x = true by rw [← tmplB_seq (Bool.and_eq_true_iff.1 (show (labS s && featsOk 72 x) = true from h1)).1]; exact h1); rw [hxl.out] at h; exact h
      have H0 := Lib.hid h0
      have H1 := Lib.hid h1
      have hm40 : m ≤ 40 := by have h := storeB_len H0.out; rw [hl.out] at h; exact h
      clear h0 h1
      by_cases hf : 40 ≤ m
      · have F := Lib.hid (add_full H0.out H1.out (by rw [hl.out]; exact hf))
        have hf2 : (40 : Int) ≤ (m : Int) := by omega
        go_enter Try.func33, Try.ntmps33
        go_wp2_with fail
        have P0 : Blk (((w.alloc (.cells #[.int .i64 z, .slice A m cb] 31)).alloc (.cells #[.string s, .slice B n ca] 58)).alloc (.cells #[.int .i64 0, .slice none 0 0] 31)) (w.heap.size) 31 #[.int .i64 z, .slice A m cb] := by have hk := ((Blk.new w 31 #[.int .i64 z, .slice A m cb]).alloc (.cells #[.string s, .slice B n ca] 58)).alloc (.cells #[.int .i64 0, .slice none 0 0] 31); simpa using hk
        have T0 : Blk (((w.alloc (.cells #[.int .i64 z, .slice A m cb] 31)).alloc (.cells #[.string s, .slice B n ca] 58)).alloc (.cells #[.int .i64 0, .slice none 0 0] 31)) (w.heap.size + 1) 58 #[.string s, .slice B n ca] := by have hk := (Blk.new (w.alloc (.cells #[.int .i64 z, .slice A m cb] 31)) 58 #[.string s, .slice B n ca]).alloc (.cells #[.int .i64 0, .slice none 0 0] 31); simpa using hk
        have R0 : Blk (((w.alloc (.cells #[.int .i64 z, .slice A m cb] 31)).alloc (.cells #[.string s, .slice B n ca] 58)).alloc (.cells #[.int .i64 0, .slice none 0 0] 31)) (w.heap.size + 1 + 1) 31 #[.int .i64 0, .slice none 0 0] := by have hk := Blk.new ((w.alloc (.cells #[.int .i64 z, .slice A m cb] 31)).alloc (.cells #[.string s, .slice B n ca] 58)) 31 #[.int .i64 0, .slice none 0 0]; simpa using hk
        have hbv : Below w.heap.size w (((w.alloc (.cells #[.int .i64 z, .slice A m cb] 31)).alloc (.cells #[.string s, .slice B n ca] 58)).alloc (.cells #[.int .i64 0, .slice none 0 0] 31)) := (by repeat (first | exact Below.refl _ _ | assumption | refine Below.drew ?_ | refine below_drewN ?_ _ | refine Below.alloc ?_ (by first | omega | (simp <;> omega)) _ | refine Below.setCell ?_ (by first | omega | (simp <;> omega)) _))
        replace hr := hr.on hbv
        replace hx := hx.on hbv
        generalize (((w.alloc (.cells #[.int .i64 z, .slice A m cb] 31)).alloc (.cells #[.string s, .slice B n ca] 58)).alloc (.cells #[.int .i64 0, .slice none 0 0] 31)) = v at *
        with_reducible refine (l11Ok_ptr z _ _ _ ts _ _ (Blk.at2 P0).1 (Blk.at2 P0).2 hr HM.out).mono ?_
        rintro e w1 ⟨rfl, hb1⟩
        rw [H0.out]
        replace R0 := R0.on hb1
        replace T0 := T0.on hb1
        replace P0 := P0.on hb1
        replace hx := hx.on hb1
        replace hbv := below_on hb1 hbv
        have t0 := T0.cell 0
        have t1 := T0.cell 1
        simp only [List.getElem?_toArray, List.getElem?_cons_succ, List.getElem?_cons_zero] at t0 t1
        have zt := T0.lt
        go_wp2_with fail
        with_reducible refine (l11Template_ptr s _ _ _ x _ _ _ (Blk.at2 T0).1.cell (Blk.at2 T0).2.cell HSS.out hx hn).mono ?_
        rintro e w2 ⟨rfl, hbw2⟩
        rw [H1.out]
        replace R0 := R0.on hbw2
        replace P0 := P0.on hbw2
        replace hbv := below_on hbw2 hbv
        clear t0 t1 zt
        have r0 := R0.cell 0
        have r1 := R0.cell 1
        simp only [List.getElem?_toArray, List.getElem?_cons_succ, List.getElem?_cons_zero] at r0 r1
        have f0 := R0.frozen 0
        have f1 := R0.frozen 1
        have p0 := P0.cell 0
        have p1 := P0.cell 1
        simp only [List.getElem?_toArray, List.getElem?_cons_succ, List.getElem?_cons_zero] at p0 p1
        have zr := R0.lt
        have zp := P0.lt
        clear hr hx
        go_wp2
        rw [F.out.1, F.out.2.1, F.out.2.2]
        exact bodyPost_ret (v := .tuple #[.agg #[.int .i64 0, .slice none 0 0], .int .i64 5]) (by simp [results, Try.results33, go_sem, r0, r1]) rfl ⟨none, 0, 0, [], rfl, TS.nil _ _ _ _, (hbv.setCell (by simp only; omega) _).setCell (by simp only; omega) _⟩
      · have F := Lib.hid (add_ok H0.out H1.out (by rw [hl.out]; exact hf))
        have hf2 : ¬ (40 : Int) ≤ (m : Int) := by omega
        go_enter Try.func33, Try.ntmps33
        go_wp2_with fail
        have P0 : Blk (((w.alloc (.cells #[.int .i64 z, .slice A m cb] 31)).alloc (.cells #[.string s, .slice B n ca] 58)).alloc (.cells #[.int .i64 0, .slice none 0 0] 31)) (w.heap.size) 31 #[.int .i64 z, .slice A m cb] := by have hk := ((Blk.new w 31 #[.int .i64 z, .slice A m cb]).alloc (.cells #[.string s, .slice B n ca] 58)).alloc (.cells #[.int .i64 0, .slice none 0 0] 31); simpa using hk
        have T0 : Blk (((w.alloc (.cells #[.int .i64 z, .slice A m cb] 31)).alloc (.cells #[.string s, .slice B n ca] 58)).alloc (.cells #[.int .i64 0, .slice none 0 0] 31)) (w.heap.size + 1) 58 #[.string s, .slice B n ca] := by have hk := (Blk.new (w.alloc (.cells #[.int .i64 z, .slice A m cb] 31)) 58 #[.string s, .slice B n ca]).alloc (.cells #[.int .i64 0, .slice none 0 0] 31); simpa using hk
        have R0 : Blk (((w.alloc (.cells #[.int .i64 z, .slice A m cb] 31)).alloc (.cells #[.string s, .slice B n ca] 58)).alloc (.cells #[.int .i64 0, .slice none 0 0] 31)) (w.heap.size + 1 + 1) 31 #[.int .i64 0, .slice none 0 0] := by have hk := Blk.new ((w.alloc (.cells #[.int .i64 z, .slice A m cb] 31)).alloc (.cells #[.string s, .slice B n ca] 58)) 31 #[.int .i64 0, .slice none 0 0]; simpa using hk
        have hbv : Below w.heap.size w (((w.alloc (.cells #[.int .i64 z, .slice A m cb] 31)).alloc (.cells #[.string s, .slice B n ca] 58)).alloc (.cells #[.int .i64 0, .slice none 0 0] 31)) := (by repeat (first | exact Below.refl _ _ | assumption | refine Below.drew ?_ | refine below_drewN ?_ _ | refine Below.alloc ?_ (by first | omega | (simp <;> omega)) _ | refine Below.setCell ?_ (by first | omega | (simp <;> omega)) _))
        replace hr := hr.on hbv
        replace hx := hx.on hbv
        generalize (((w.alloc (.cells #[.int .i64 z, .slice A m cb] 31)).alloc (.cells #[.string s, .slice B n ca] 58)).alloc (.cells #[.int .i64 0, .slice none 0 0] 31)) = v at *
        with_reducible refine (l11Ok_ptr z _ _ _ ts _ _ (Blk.at2 P0).1 (Blk.at2 P0).2 hr HM.out).mono ?_
        rintro e w1 ⟨rfl, hb1⟩
        rw [H0.out]
        replace R0 := R0.on hb1
        replace T0 := T0.on hb1
        replace P0 := P0.on hb1
        replace hx := hx.on hb1
        replace hr := hr.on hb1
        replace hbv := below_on hb1 hbv
        have t0 := T0.cell 0
        have t1 := T0.cell 1
        simp only [List.getElem?_toArray, List.getElem?_cons_succ, List.getElem?_cons_zero] at t0 t1
        have zt := T0.lt
        go_wp2_with fail
        with_reducible refine (l11Template_ptr s _ _ _ x _ _ _ (Blk.at2 T0).1.cell (Blk.at2 T0).2.cell HSS.out hx hn).mono ?_
        rintro e w2 ⟨rfl, hbw2⟩
        rw [H1.out]
        replace R0 := R0.on hbw2
        replace T0 := T0.on hbw2
        replace P0 := P0.on hbw2
        replace hx := hx.on hbw2
        replace hr := hr.on hbw2
        replace hbv := below_on hbw2 hbv
        clear t0 t1 zt
        have hzw2 := hbv.size
        have p0 := P0.cell 0
        have p1 := P0.cell 1
        simp only [List.getElem?_toArray, List.getElem?_cons_succ, List.getElem?_cons_zero] at p0 p1
        have zp := P0.lt
        go_wp2_with fail
        with_reducible refine (l11Own_ptr z (-1) _ _ _ ts _ _ (Blk.at2 P0).1 (Blk.at2 P0).2 hr HM.out H0.out (show I64 (-1) by unfold I64; omega)).mono ?_
        rintro e w3 ⟨A3, n3, q3, hs3, rfl, hT3, hbw3⟩
        rw [lessL_all (by decide) m (by rw [hl.out]; exact Nat.le_refl _), List.take_of_length_le (by rw [hl.out]; exact Nat.le_refl _)] at hT3
        obtain rfl : n3 = m := by rw [← hT3.x]; exact hl.out
        replace R0 := R0.on hbw3
        replace T0 := T0.on hbw3
        replace hx := hx.on hbw3
        replace hbv := below_on hbw3 hbv
        have HT3 := Lib.hid hT3
        have z2 := hbw3.size
        have zr2 := R0.lt
        clear hr hT3 P0 p0 p1 zp
        go_wp2_with fail
        have O1 := Blk.new (w3) 31 #[.int .i64 z, .slice A3 n3 q3]
        have hbw4 : Below (w3).heap.size (w3) ((w3).alloc (.cells #[.int .i64 z, .slice A3 n3 q3] 31)) := (Below.refl _ _).alloc (Nat.le_refl _) _
        replace R0 := R0.on hbw4
        replace T0 := T0.on hbw4
        replace hx := hx.on hbw4
        generalize (w3).alloc (.cells #[.int .i64 z, .slice A3 n3 q3] 31) = w4 at *
        have hTa := Lib.hid (HT3.out.on hbw4)
        have HX := Lib.hid hx
        have zo := O1.lt
        have zt := T0.lt
        have z4 := hbw4.size
        replace hbv := Lib.hid (below_on hbw4 hbv)
        have t0 := T0.cell 0
        have t1 := T0.cell 1
        simp only [List.getElem?_toArray, List.getElem?_cons_succ, List.getElem?_cons_zero] at t0 t1
        have o0 := O1.cell 0
        have o1 := O1.cell 1
        simp only [List.getElem?_toArray, List.getElem?_cons_succ, List.getElem?_cons_zero] at o0 o1
        have f0 := O1.frozen 0
        have f1 := O1.frozen 1
        clear hx hbw4 hbw3
        have HR0 := Lib.hid R0
        clear R0
        have hE : (w4.alloc (.cells #[] 109)).ownsRow w4.heap.size 109 3 (.slice (some ⟨w4.heap.size, 0, none⟩) 0 0) 0 [] := by simpa using World.ownsRow_lit (base := w4.heap.size) (e := 109) (size := 3) w4 #[] 0 (Nat.le_refl _) (by simp [maxLen]) rfl
        have HE := Lib.hid hE
        have hbE := Lib.hid ((Below.refl w4.heap.size w4).alloc (Nat.le_refl _) (.cells #[] 109))
        clear hE
        go_region_law (first | (refine step_all _ c3_len one3 (by rfl) (.tmp 24) (.tmp 26) 56 (by rfl) w4.heap.size 109 iF _ Try.underlying56 ki kz0 kz1 kz2 rfl (by decide) (by decide) _ _ (by rfl) HE.out B n ca w4.heap.size x (by rfl) (HX.out.alloc (Nat.le_refl _) (.cells #[] 109)) hpos hn (by simp) ?_; intro A5 q5 w5 o5 hb5; obtain ⟨u0, u1, y0, y1, zs⟩ := (O1.on (hbE.out.drew.trans hb5)).two; obtain ⟨v0, v1, x0, x1, zt5⟩ := (T0.on (hbE.out.drew.trans hb5)).two) | (refine step_grow _ cT_len oneT (by rfl) (.tmp 21) (.tmp 29) 29 (by rfl) w2.heap.size 58 i0 _ Try.underlying29 hi hz0 hz1 hz2 rfl (by decide) (by decide) A3 n3 q3 hs3 (by rfl) ((own_below hTa.out.o (hbE.out.drew.trans hb5)).alloc _) w5.heap.size 1 (s, A5, n, q5) (by rfl) (newsT (Blk.new w5 58 #[.string s, .slice A5 n q5])) (by omega) (by have := (hbE.out.drew.trans hb5).size; simp; omega) ?_; intro A6 c6 w6 hw6 hg6; obtain ⟨j0, j1, g0, g1, zr⟩ := (((O1.on (hbE.out.drew.trans hb5)).alloc (.cells #[.string s, .slice A5 n q5] 58)).grown ((own_below hTa.out.o (hbE.out.drew.trans hb5)).alloc _) hg6 (by decide)).two))
        all_goals
          have hD : Below w4.heap.size w4 w5 := hbE.out.drew.trans hb5
          have zD := hD.size
          have hDa : Below w5.heap.size w5 (w5.alloc (.cells #[.string s, .slice A5 n q5] 58)) := (Below.refl _ _).alloc (Nat.le_refl _) _
          have hT5 := Lib.hid ((hTa.out.on hD).on hDa)
          have hO5 := Lib.hid (o5.alloc (.cells #[.string s, .slice A5 n q5] 58))
          have O6 := ((O1.on hD).on hDa).grown hT5.out.o hg6 (by decide)
          have R6 := ((HR0.out.on hD).on hDa).grown hT5.out.o hg6 (by decide)
          have hP := Lib.hid (TS.push hT5.out (by decide) hO5.out hxl.out (by omega) (fun i q a hi9 ha9 => (hTa.out.top i q a hi9 ha9).2) hw6 hg6)
          have hzbv := hbv.out.size
          have hb6 : Below w.heap.size w w6 := ((hbv.out.trans (hD.mono (by omega))).alloc (by omega) _).grown hg6 (by simp; omega) (fun q hq => by have := (hT5.out.o.lt q hq).1; omega)
          have z6 := hg6.size
          have R7 := R6.far (p := ⟨w3.heap.size, 1, none⟩) (by simp only; omega) (.slice A6 (n3 + 1) c6)
          have O7 := O6.set_ 1 (.slice A6 (n3 + 1) c6)
          rw [show (#[Value.int .i64 z, Value.slice A3 n3 q3] : Array Value).setIfInBounds 1 (.slice A6 (n3 + 1) c6) = #[.int .i64 z, .slice A6 (n3 + 1) c6] from rfl] at O7
          have hP7 := Lib.hid (hP.out.off O6 (by decide) (by decide) 1 (.slice A6 (n3 + 1) c6))
          have hb7 := hb6.setCell (p := ⟨w3.heap.size, 1, none⟩) (by simp only; omega) (.slice A6 (n3 + 1) c6)
          clear hw6 hg6 o5 u0 u1 y0 y1 zs v0 v1 x0 x1 zt5 hb6 R6 O6 j0 j1 g0 g1 zr hb5 hbE HE
          generalize w6.setCell ⟨w3.heap.size, 1, none⟩ (.slice A6 (n3 + 1) c6) = w7 at *
          have r0 := R7.cell 0
          have r1 := R7.cell 1
          simp only [List.getElem?_toArray, List.getElem?_cons_succ, List.getElem?_cons_zero] at r0 r1
          have f0 := R7.frozen 0
          have f1 := R7.frozen 1
          have o0 := O7.cell 0
          have o1 := O7.cell 1
          simp only [List.getElem?_toArray, List.getElem?_cons_succ, List.getElem?_cons_zero] at o0 o1
          have zr := R7.lt
          have zo7 := O7.lt
          go_wp2
          rw [F.out.1, F.out.2.1, F.out.2.2]
          exact bodyPost_ret (v := .tuple #[.agg #[.int .i64 z, .slice A6 (n3 + 1) c6], .int .i64 0]) (by simp [results, Try.results33, go_sem, r0, r1]) rfl ⟨A6, n3 + 1, c6, hs3 ++ [(s, A5, n, q5)], rfl, ((hP7.out.off R7 (by decide) (by decide) 0 _).off (R7.set_ 0 _) (by decide) (by decide) 1 _).mono (by omega), (hb7.setCell (by simp only; omega) _).setCell (by simp only; omega) _⟩
end Go.Proofs.Ytammapaockmjkaa
