/- AddTemplate: the program's and the reference's. -/
import Derived.Test.YtammapaockmjkaaCp
namespace Go.Proofs.Ytammapaockmjkaa
open Go.ChangeShapes Go.WideShapes Go.ChangeAt Go.RowKit
set_option linter.unusedVariables false
set_option linter.unusedSimpArgs false
def addE (z : Int) (ts : List TV) (x : TV) : Int := if (storeB z ts && tmplB x) = true then (if 40 ≤ ts.length then 5 else 0) else 1
def addZ (z : Int) (ts : List TV) (x : TV) : Int := if addE z ts x = 0 then z else 0
def addL (z : Int) (ts : List TV) (x : TV) : List TV := if addE z ts x = 0 then ts ++ [x] else []
theorem add_bad {z : Int} {ts : List TV} {x : TV} (h : (storeB z ts && tmplB x) = false) : addE z ts x = 1 ∧ addZ z ts x = 0 ∧ addL z ts x = [] := by
  have h1 : addE z ts x = 1 := by unfold addE; rw [h]; rfl
  unfold addZ addL; rw [h1]; exact ⟨rfl, rfl, rfl⟩
theorem add_full {z : Int} {ts : List TV} {x : TV} (h : storeB z ts = true) (h' : tmplB x = true) (hn : 40 ≤ ts.length) : addE z ts x = 5 ∧ addZ z ts x = 0 ∧ addL z ts x = [] := by
  have h1 : addE z ts x = 5 := by unfold addE; rw [h, h']; exact if_pos hn
  unfold addZ addL; rw [h1]; exact ⟨rfl, rfl, rfl⟩
theorem add_ok {z : Int} {ts : List TV} {x : TV} (h : storeB z ts = true) (h' : tmplB x = true) (hn : ¬ 40 ≤ ts.length) : addE z ts x = 0 ∧ addZ z ts x = z ∧ addL z ts x = ts ++ [x] := by
  have h1 : addE z ts x = 0 := by unfold addE; rw [h, h']; exact if_neg hn
  unfold addZ addL; rw [h1]; exact ⟨rfl, rfl, rfl⟩
theorem labS_size {s : ByteArray} (h : labS s = true) : s.size = 1 := by
  rcases Nat.lt_or_ge s.size 2 with h1 | h1
  · rcases Nat.lt_or_ge s.size 1 with h2 | h2
    · rw [labS_no (by omega)] at h; cases h
    · omega
  · rw [labS_no (by omega)] at h; cases h
theorem tmplB_sz {x : TV} (h : tmplB x = true) : szT x ≤ 73 := by
  unfold tmplB at h
  obtain ⟨h1, h2⟩ := Bool.and_eq_true_iff.1 h
  have h3 := labS_size h1
  unfold featsOk at h2
  have h4 := (inB_iff.1 (Bool.and_eq_true_iff.1 h2).2).2
  unfold szT; omega
theorem all_tot {ts : List TV} (h : ts.all tmplB = true) : totT ts ≤ 74 * ts.length := by
  unfold totT
  have h2 : (ts.map szT).sum ≤ 73 * ts.length := by
    induction ts with
    | nil => simp
    | cons a l ih =>
      simp only [List.all_cons, Bool.and_eq_true] at h
      have := ih h.2
      have := tmplB_sz h.1
      simp only [List.map_cons, List.sum_cons, List.length_cons]; omega
  omega
theorem storeB_tot {z : Int} {ts : List TV} (h : storeB z ts = true) : totT ts ≤ 2960 := by
  have h1 := storeB_len h
  unfold storeB at h
  have h2 := all_tot (Bool.and_eq_true_iff.1 h).1
  omega
theorem addL_tot (z : Int) (ts : List TV) (x : TV) : totT (addL z ts x) ≤ 1048576 := by
  by_cases h : (storeB z ts && tmplB x) = true
  · obtain ⟨h1, h2⟩ := Bool.and_eq_true_iff.1 h
    by_cases hn : 40 ≤ ts.length
    · rw [(add_full h1 h2 hn).2.2]; decide
    · rw [(add_ok h1 h2 hn).2.2]
      have h3 := storeB_tot h1
      have h4 := tmplB_sz h2
      unfold totT at h3 ⊢
      simp; omega
  · rw [(add_bad (by simpa using h)).2.2]; decide
set_option maxRecDepth 100000 in
set_option maxHeartbeats 8000000 in
theorem iAdd_any (z : Int) (A : Option Addr) (m cb : Nat) (ts : List TV) (s : ByteArray) (B : Option Addr) (n ca : Nat) (x : List T3) (w : World) (hr : TL w w.heap.size A m cb ts) (hm : totT ts ≤ 1048576) (hs : s.size ≤ maxLen) (hx : RdL c3 3 w w.heap.size B n ca x) (hn : n ≤ 1048576) :
    Calls Try.prog 35 #[.agg #[.int .i64 z, .slice A m cb], .agg #[.string s, .slice B n ca]] w fun e w' => ∃ (A' : Option Addr) (n' c' : Nat) (hs : List HT), e = .returned (.tuple #[.agg #[.int .i64 (addZ z ts (s, x)), .slice A' n' c'], .int .i64 (addE z ts (s, x))]) ∧
      TS w' w.heap.size 58 109 A' n' c' hs (addL z ts (s, x)) ∧ Below w.heap.size w w' := by
  obtain ⟨i0, hi, hz0, hz1, hz2⟩ := info_parts Try.infoTempl
  have hl := Lib.hid hr.len
  have hxl := Lib.hid hx.len
  have HM := Lib.hid hm
  have HSS := Lib.hid hs
  clear hm hs
  cases h0 : storeB z ts with
  | false =>
    have F := Lib.hid (add_bad (x := (s, x)) (show (storeB z ts && tmplB (s, x)) = false by rw [h0]; rfl))
    have H0 := Lib.hid h0
    clear h0
    go_enter Try.func35, Try.ntmps35
    go_wp2_with fail
    have P0 : Blk (((w.alloc (.cells #[.int .i64 z, .slice A m cb] 31)).alloc (.cells #[.string s, .slice B n ca] 58)).alloc (.cells #[.int .i64 0, .slice none 0 0] 31)) (w.heap.size) 31 #[.int .i64 z, .slice A m cb] := by have hk := ((Blk.new w 31 #[.int .i64 z, .slice A m cb]).alloc (.cells #[.string s, .slice B n ca] 58)).alloc (.cells #[.int .i64 0, .slice none 0 0] 31); simpa using hk
    have T0 : Blk (((w.alloc (.cells #[.int .i64 z, .slice A m cb] 31)).alloc (.cells #[.string s, .slice B n ca] 58)).alloc (.cells #[.int .i64 0, .slice none 0 0] 31)) (w.heap.size + 1) 58 #[.string s, .slice B n ca] := by have hk := (Blk.new (w.alloc (.cells #[.int .i64 z, .slice A m cb] 31)) 58 #[.string s, .slice B n ca]).alloc (.cells #[.int .i64 0, .slice none 0 0] 31); simpa using hk
    have R0 : Blk (((w.alloc (.cells #[.int .i64 z, .slice A m cb] 31)).alloc (.cells #[.string s, .slice B n ca] 58)).alloc (.cells #[.int .i64 0, .slice none 0 0] 31)) (w.heap.size + 1 + 1) 31 #[.int .i64 0, .slice none 0 0] := by have hk := Blk.new ((w.alloc (.cells #[.int .i64 z, .slice A m cb] 31)).alloc (.cells #[.string s, .slice B n ca] 58)) 31 #[.int .i64 0, .slice none 0 0]; simpa using hk
    have hbv : Below w.heap.size w (((w.alloc (.cells #[.int .i64 z, .slice A m cb] 31)).alloc (.cells #[.string s, .slice B n ca] 58)).alloc (.cells #[.int .i64 0, .slice none 0 0] 31)) := (by repeat (first | exact Below.refl _ _ | assumption | refine Below.drew ?_ | refine below_drewN ?_ _ | refine Below.alloc ?_ (by first | omega | (simp <;> omega)) _ | refine Below.setCell ?_ (by first | omega | (simp <;> omega)) _))
    replace hr := hr.on hbv
    replace hx := hx.on hbv
    generalize (((w.alloc (.cells #[.int .i64 z, .slice A m cb] 31)).alloc (.cells #[.string s, .slice B n ca] 58)).alloc (.cells #[.int .i64 0, .slice none 0 0] 31)) = v at *
    with_reducible refine (iValidStore_any z _ _ _ ts _ hr HM.out).mono ?_
    rintro e w1 ⟨rfl, hb1⟩
    rw [H0.out]
    replace R0 := R0.on hb1
    replace hbv := below_on hb1 hbv
    have r0 := R0.cell 0
    have r1 := R0.cell 1
    simp only [List.getElem?_toArray, List.getElem?_cons_succ, List.getElem?_cons_zero] at r0 r1
    have f0 := R0.frozen 0
    have f1 := R0.frozen 1
    have zr := R0.lt
    clear hr hx
    go_wp2
    rw [F.out.1, F.out.2.1, F.out.2.2]
    exact bodyPost_ret (v := .tuple #[.agg #[.int .i64 0, .slice none 0 0], .int .i64 1]) (by simp [results, Try.results35, go_sem, r0, r1]) rfl ⟨none, 0, 0, [], rfl, TS.nil _ _ _ _, (hbv.setCell (by simp only; omega) _).setCell (by simp only; omega) _⟩
  | true =>
    cases h1 : tmplB (s, x) with
    | false =>
      have F := Lib.hid (add_bad (z := z) (ts := ts) (show (storeB z ts && tmplB (s, x)) = false by rw [h1, Bool.and_false]))
      have H0 := Lib.hid h0
      have H1 := Lib.hid h1
      clear h0 h1
      go_enter Try.func35, Try.ntmps35
      go_wp2_with fail
      have P0 : Blk (((w.alloc (.cells #[.int .i64 z, .slice A m cb] 31)).alloc (.cells #[.string s, .slice B n ca] 58)).alloc (.cells #[.int .i64 0, .slice none 0 0] 31)) (w.heap.size) 31 #[.int .i64 z, .slice A m cb] := by have hk := ((Blk.new w 31 #[.int .i64 z, .slice A m cb]).alloc (.cells #[.string s, .slice B n ca] 58)).alloc (.cells #[.int .i64 0, .slice none 0 0] 31); simpa using hk
      have T0 : Blk (((w.alloc (.cells #[.int .i64 z, .slice A m cb] 31)).alloc (.cells #[.string s, .slice B n ca] 58)).alloc (.cells #[.int .i64 0, .slice none 0 0] 31)) (w.heap.size + 1) 58 #[.string s, .slice B n ca] := by have hk := (Blk.new (w.alloc (.cells #[.int .i64 z, .slice A m cb] 31)) 58 #[.string s, .slice B n ca]).alloc (.cells #[.int .i64 0, .slice none 0 0] 31); simpa using hk
      have R0 : Blk (((w.alloc (.cells #[.int .i64 z, .slice A m cb] 31)).alloc (.cells #[.string s, .slice B n ca] 58)).alloc (.cells #[.int .i64 0, .slice none 0 0] 31)) (w.heap.size + 1 + 1) 31 #[.int .i64 0, .slice none 0 0] := by have hk := Blk.new ((w.alloc (.cells #[.int .i64 z, .slice A m cb] 31)).alloc (.cells #[.string s, .slice B n ca] 58)) 31 #[.int .i64 0, .slice none 0 0]; simpa using hk
      have hbv : Below w.heap.size w (((w.alloc (.cells #[.int .i64 z, .slice A m cb] 31)).alloc (.cells #[.string s, .slice B n ca] 58)).alloc (.cells #[.int .i64 0, .slice none 0 0] 31)) := (by repeat (first | exact Below.refl _ _ | assumption | refine Below.drew ?_ | refine below_drewN ?_ _ | refine Below.alloc ?_ (by first | omega | (simp <;> omega)) _ | refine Below.setCell ?_ (by first | omega | (simp <;> omega)) _))
      replace hr := hr.on hbv
      replace hx := hx.on hbv
      generalize (((w.alloc (.cells #[.int .i64 z, .slice A m cb] 31)).alloc (.cells #[.string s, .slice B n ca] 58)).alloc (.cells #[.int .i64 0, .slice none 0 0] 31)) = v at *
      with_reducible refine (iValidStore_any z _ _ _ ts _ hr HM.out).mono ?_
      rintro e w1 ⟨rfl, hb1⟩
      rw [H0.out]
      replace R0 := R0.on hb1
      replace T0 := T0.on hb1
      replace hx := hx.on hb1
      replace hbv := below_on hb1 hbv
      have t0 := T0.cell 0
      have t1 := T0.cell 1
      simp only [List.getElem?_toArray, List.getElem?_cons_succ, List.getElem?_cons_zero] at t0 t1
      have zt := T0.lt
      go_wp2_with fail
      with_reducible refine (iValidTempl_any s _ _ _ x _ HSS.out hx hn).mono ?_
      rintro e w2 ⟨rfl, hbw2⟩
      rw [H1.out]
      replace R0 := R0.on hbw2
      replace hbv := below_on hbw2 hbv
      clear t0 t1 zt
      have r0 := R0.cell 0
      have r1 := R0.cell 1
      simp only [List.getElem?_toArray, List.getElem?_cons_succ, List.getElem?_cons_zero] at r0 r1
      have f0 := R0.frozen 0
      have f1 := R0.frozen 1
      have zr := R0.lt
      clear hr hx
      go_wp2
      rw [F.out.1, F.out.2.1, F.out.2.2]
      exact bodyPost_ret (v := .tuple #[.agg #[.int .i64 0, .slice none 0 0], .int .i64 1]) (by simp [results, Try.results35, go_sem, r0, r1]) rfl ⟨none, 0, 0, [], rfl, TS.nil _ _ _ _, (hbv.setCell (by simp only; omega) _).setCell (by simp only; omega) _⟩
    | true =>
      have hpos : 0 < n := by have h := featsOk_pos (show featsOk 72 x = true by rw [← tmplB_seq (Bool.and_eq_true_iff.1 (show (labS s && featsOk 72 x) = true from h1)).1]; exact h1); rw [hxl.out] at h; exact h
      have H0 := Lib.hid h0
      have H1 := Lib.hid h1
      have hm40 : m ≤ 40 := by have h := storeB_len H0.out; rw [hl.out] at h; exact h
      clear h0 h1
      by_cases hf : 40 ≤ m
      · have F := Lib.hid (add_full H0.out H1.out (by rw [hl.out]; exact hf))
        have hf2 : (40 : Int) ≤ (m : Int) := by omega
        go_enter Try.func35, Try.ntmps35
        go_wp2_with fail
        have P0 : Blk (((w.alloc (.cells #[.int .i64 z, .slice A m cb] 31)).alloc (.cells #[.string s, .slice B n ca] 58)).alloc (.cells #[.int .i64 0, .slice none 0 0] 31)) (w.heap.size) 31 #[.int .i64 z, .slice A m cb] := by have hk := ((Blk.new w 31 #[.int .i64 z, .slice A m cb]).alloc (.cells #[.string s, .slice B n ca] 58)).alloc (.cells #[.int .i64 0, .slice none 0 0] 31); simpa using hk
        have T0 : Blk (((w.alloc (.cells #[.int .i64 z, .slice A m cb] 31)).alloc (.cells #[.string s, .slice B n ca] 58)).alloc (.cells #[.int .i64 0, .slice none 0 0] 31)) (w.heap.size + 1) 58 #[.string s, .slice B n ca] := by have hk := (Blk.new (w.alloc (.cells #[.int .i64 z, .slice A m cb] 31)) 58 #[.string s, .slice B n ca]).alloc (.cells #[.int .i64 0, .slice none 0 0] 31); simpa using hk
        have R0 : Blk (((w.alloc (.cells #[.int .i64 z, .slice A m cb] 31)).alloc (.cells #[.string s, .slice B n ca] 58)).alloc (.cells #[.int .i64 0, .slice none 0 0] 31)) (w.heap.size + 1 + 1) 31 #[.int .i64 0, .slice none 0 0] := by have hk := Blk.new ((w.alloc (.cells #[.int .i64 z, .slice A m cb] 31)).alloc (.cells #[.string s, .slice B n ca] 58)) 31 #[.int .i64 0, .slice none 0 0]; simpa using hk
        have hbv : Below w.heap.size w (((w.alloc (.cells #[.int .i64 z, .slice A m cb] 31)).alloc (.cells #[.string s, .slice B n ca] 58)).alloc (.cells #[.int .i64 0, .slice none 0 0] 31)) := (by repeat (first | exact Below.refl _ _ | assumption | refine Below.drew ?_ | refine below_drewN ?_ _ | refine Below.alloc ?_ (by first | omega | (simp <;> omega)) _ | refine Below.setCell ?_ (by first | omega | (simp <;> omega)) _))
        replace hr := hr.on hbv
        replace hx := hx.on hbv
        generalize (((w.alloc (.cells #[.int .i64 z, .slice A m cb] 31)).alloc (.cells #[.string s, .slice B n ca] 58)).alloc (.cells #[.int .i64 0, .slice none 0 0] 31)) = v at *
        with_reducible refine (iValidStore_any z _ _ _ ts _ hr HM.out).mono ?_
        rintro e w1 ⟨rfl, hb1⟩
        rw [H0.out]
        replace R0 := R0.on hb1
        replace T0 := T0.on hb1
        replace P0 := P0.on hb1
        replace hx := hx.on hb1
        replace hbv := below_on hb1 hbv
        have t0 := T0.cell 0
        have t1 := T0.cell 1
        simp only [List.getElem?_toArray, List.getElem?_cons_succ, List.getElem?_cons_zero] at t0 t1
        have zt := T0.lt
        go_wp2_with fail
        with_reducible refine (iValidTempl_any s _ _ _ x _ HSS.out hx hn).mono ?_
        rintro e w2 ⟨rfl, hbw2⟩
        rw [H1.out]
        replace R0 := R0.on hbw2
        replace P0 := P0.on hbw2
        replace hbv := below_on hbw2 hbv
        clear t0 t1 zt
        have r0 := R0.cell 0
        have r1 := R0.cell 1
        simp only [List.getElem?_toArray, List.getElem?_cons_succ, List.getElem?_cons_zero] at r0 r1
        have f0 := R0.frozen 0
        have f1 := R0.frozen 1
        have p0 := P0.cell 0
        have p1 := P0.cell 1
        simp only [List.getElem?_toArray, List.getElem?_cons_succ, List.getElem?_cons_zero] at p0 p1
        have zr := R0.lt
        have zp := P0.lt
        clear hr hx
        go_wp2
        rw [F.out.1, F.out.2.1, F.out.2.2]
        exact bodyPost_ret (v := .tuple #[.agg #[.int .i64 0, .slice none 0 0], .int .i64 5]) (by simp [results, Try.results35, go_sem, r0, r1]) rfl ⟨none, 0, 0, [], rfl, TS.nil _ _ _ _, (hbv.setCell (by simp only; omega) _).setCell (by simp only; omega) _⟩
      · have F := Lib.hid (add_ok H0.out H1.out (by rw [hl.out]; exact hf))
        have hf2 : ¬ (40 : Int) ≤ (m : Int) := by omega
        go_enter Try.func35, Try.ntmps35
        go_wp2_with fail
        have P0 : Blk (((w.alloc (.cells #[.int .i64 z, .slice A m cb] 31)).alloc (.cells #[.string s, .slice B n ca] 58)).alloc (.cells #[.int .i64 0, .slice none 0 0] 31)) (w.heap.size) 31 #[.int .i64 z, .slice A m cb] := by have hk := ((Blk.new w 31 #[.int .i64 z, .slice A m cb]).alloc (.cells #[.string s, .slice B n ca] 58)).alloc (.cells #[.int .i64 0, .slice none 0 0] 31); simpa using hk
        have T0 : Blk (((w.alloc (.cells #[.int .i64 z, .slice A m cb] 31)).alloc (.cells #[.string s, .slice B n ca] 58)).alloc (.cells #[.int .i64 0, .slice none 0 0] 31)) (w.heap.size + 1) 58 #[.string s, .slice B n ca] := by have hk := (Blk.new (w.alloc (.cells #[.int .i64 z, .slice A m cb] 31)) 58 #[.string s, .slice B n ca]).alloc (.cells #[.int .i64 0, .slice none 0 0] 31); simpa using hk
        have R0 : Blk (((w.alloc (.cells #[.int .i64 z, .slice A m cb] 31)).alloc (.cells #[.string s, .slice B n ca] 58)).alloc (.cells #[.int .i64 0, .slice none 0 0] 31)) (w.heap.size + 1 + 1) 31 #[.int .i64 0, .slice none 0 0] := by have hk := Blk.new ((w.alloc (.cells #[.int .i64 z, .slice A m cb] 31)).alloc (.cells #[.string s, .slice B n ca] 58)) 31 #[.int .i64 0, .slice none 0 0]; simpa using hk
        have hbv : Below w.heap.size w (((w.alloc (.cells #[.int .i64 z, .slice A m cb] 31)).alloc (.cells #[.string s, .slice B n ca] 58)).alloc (.cells #[.int .i64 0, .slice none 0 0] 31)) := (by repeat (first | exact Below.refl _ _ | assumption | refine Below.drew ?_ | refine below_drewN ?_ _ | refine Below.alloc ?_ (by first | omega | (simp <;> omega)) _ | refine Below.setCell ?_ (by first | omega | (simp <;> omega)) _))
        replace hr := hr.on hbv
        replace hx := hx.on hbv
        generalize (((w.alloc (.cells #[.int .i64 z, .slice A m cb] 31)).alloc (.cells #[.string s, .slice B n ca] 58)).alloc (.cells #[.int .i64 0, .slice none 0 0] 31)) = v at *
        with_reducible refine (iValidStore_any z _ _ _ ts _ hr HM.out).mono ?_
        rintro e w1 ⟨rfl, hb1⟩
        rw [H0.out]
        replace R0 := R0.on hb1
        replace T0 := T0.on hb1
        replace P0 := P0.on hb1
        replace hx := hx.on hb1
        replace hr := hr.on hb1
        replace hbv := below_on hb1 hbv
        have t0 := T0.cell 0
        have t1 := T0.cell 1
        simp only [List.getElem?_toArray, List.getElem?_cons_succ, List.getElem?_cons_zero] at t0 t1
        have zt := T0.lt
        go_wp2_with fail
        with_reducible refine (iValidTempl_any s _ _ _ x _ HSS.out hx hn).mono ?_
        rintro e w2 ⟨rfl, hbw2⟩
        rw [H1.out]
        replace R0 := R0.on hbw2
        replace T0 := T0.on hbw2
        replace P0 := P0.on hbw2
        replace hx := hx.on hbw2
        replace hr := hr.on hbw2
        replace hbv := below_on hbw2 hbv
        clear t0 t1 zt
        have p0 := P0.cell 0
        have p1 := P0.cell 1
        simp only [List.getElem?_toArray, List.getElem?_cons_succ, List.getElem?_cons_zero] at p0 p1
        have zp := P0.lt
        have hzw2 := hbv.size
        go_wp2_with fail
        with_reducible refine (copyStore_any z _ _ _ ts _ hr HM.out H0.out).mono ?_
        rintro e w3 ⟨A3, q3, hs3, rfl, hT3, hbw3⟩
        replace R0 := R0.on hbw3
        replace T0 := T0.on hbw3
        replace hx := hx.on hbw3
        replace hbv := below_on hbw3 hbv
        have HT3 := Lib.hid hT3
        have z2 := hbw3.size
        have zr2 := R0.lt
        clear p0 p1 zp hr hT3 P0
        go_wp2_with fail
        have O1 := Blk.new (w3) 31 #[.int .i64 z, .slice A3 m q3]
        have hbw4 : Below (w3).heap.size (w3) ((w3).alloc (.cells #[.int .i64 z, .slice A3 m q3] 31)) := (Below.refl _ _).alloc (Nat.le_refl _) _
        replace R0 := R0.on hbw4
        replace T0 := T0.on hbw4
        replace hx := hx.on hbw4
        generalize (w3).alloc (.cells #[.int .i64 z, .slice A3 m q3] 31) = w4 at *
        have hTa := Lib.hid (HT3.out.on hbw4)
        have HX := Lib.hid hx
        have zo := O1.lt
        have zt := T0.lt
        have z4 := hbw4.size
        replace hbv := below_on hbw4 hbv
        have t0 := T0.cell 0
        have t1 := T0.cell 1
        simp only [List.getElem?_toArray, List.getElem?_cons_succ, List.getElem?_cons_zero] at t0 t1
        have o0 := O1.cell 0
        have o1 := O1.cell 1
        simp only [List.getElem?_toArray, List.getElem?_cons_succ, List.getElem?_cons_zero] at o0 o1
        have f0 := O1.frozen 0
        have f1 := O1.frozen 1
        clear hx hbw4 hbw3
        have HR0 := Lib.hid R0
        clear R0
        go_region_law (first | (refine step_grow _ cT_len oneT (by rfl) (.tmp 24) (.tmp 27) 29 (by rfl) w2.heap.size 58 i0 _ Try.underlying29 hi hz0 hz1 hz2 rfl (by decide) (by decide) A3 m q3 hs3 (by rfl) ((own_below (own_below hTa.out.o ((Below.refl _ _).drew)) hbw5).alloc _) w5.heap.size 1 (s, A5, n, q5) (by rfl) (newsT (Blk.new w5 58 #[.string s, .slice A5 n q5])) (by omega) (by have := hbw5.size; simp only [hs_drew] at this; simp; omega) ?_; intro A6 c6 w6 hw6 hg6; obtain ⟨j0, j1, g0, g1, zr⟩ := (((O1.drew.on hbw5).alloc (.cells #[.string s, .slice A5 n q5] 58)).grown ((own_below (own_below hTa.out.o ((Below.refl _ _).drew)) hbw5).alloc _) hg6 (by decide)).two) | (go_simp; go_at_call 94; with_reducible refine (copyTempl_any s _ _ _ x _ (HX.out.on (Below.refl _ _).drew) hpos hn).mono ?_; rintro e w5 ⟨A5, q5, rfl, o5, hbw5⟩; obtain ⟨u0, u1, y0, y1, zs⟩ := (O1.drew.on hbw5).two; obtain ⟨t0, t1, x0, x1, zt⟩ := (T0.drew.on hbw5).two))
        all_goals
          have hD : Below w4.heap.size w4 w5 := below_app ((Below.refl _ _).drew) hbw5 (Nat.le_refl _)
          have zD := hD.size
          have hDa : Below w5.heap.size w5 (w5.alloc (.cells #[.string s, .slice A5 n q5] 58)) := (Below.refl _ _).alloc (Nat.le_refl _) _
          have hT5 := Lib.hid ((hTa.out.on hD).on hDa)
          have hO5 := Lib.hid (o5.alloc (.cells #[.string s, .slice A5 n q5] 58))
          have O6 := ((O1.on hD).on hDa).grown hT5.out.o hg6 (by decide)
          have R6 := ((HR0.out.on hD).on hDa).grown hT5.out.o hg6 (by decide)
          have hP := Lib.hid (TS.push hT5.out (by decide) hO5.out hxl.out (by simp only [hs_drew]; omega) (fun i q a hi9 ha9 => (hTa.out.top i q a hi9 ha9).2) hw6 hg6)
          have hb6 : Below w.heap.size w w6 := ((hbv.trans (hD.mono (by have := hbv.size; omega))).alloc (by have := hbv.size; omega) _).grown hg6 (by have := hbv.size; simp; omega) (fun q hq => by have := (hT5.out.o.lt q hq).1; have := hbv.size; omega)
          have z6 := hg6.size
          have hOR : w3.heap.size ≠ w.heap.size + 1 + 1 := by omega
          have R7 := R6.far (p := ⟨w3.heap.size, 1, none⟩) (by simp only; omega) (.slice A6 (m + 1) c6)
          have O7 := O6.set_ 1 (.slice A6 (m + 1) c6)
          rw [show (#[Value.int .i64 z, Value.slice A3 m q3] : Array Value).setIfInBounds 1 (.slice A6 (m + 1) c6) = #[.int .i64 z, .slice A6 (m + 1) c6] from rfl] at O7
          have hP7 := Lib.hid (hP.out.off O6 (by decide) (by decide) 1 (.slice A6 (m + 1) c6))
          have hb7 := hb6.setCell (p := ⟨w3.heap.size, 1, none⟩) (by simp only; have := hbv.size; omega) (.slice A6 (m + 1) c6)
          clear hw6 hg6 o5 u0 u1 y0 y1 zs t0 t1 x0 x1 zt hb6 R6 O6 j0 j1 g0 g1 zr
          generalize w6.setCell ⟨w3.heap.size, 1, none⟩ (.slice A6 (m + 1) c6) = w7 at *
          have r0 := R7.cell 0
          have r1 := R7.cell 1
          simp only [List.getElem?_toArray, List.getElem?_cons_succ, List.getElem?_cons_zero] at r0 r1
          have f0 := R7.frozen 0
          have f1 := R7.frozen 1
          have o0 := O7.cell 0
          have o1 := O7.cell 1
          simp only [List.getElem?_toArray, List.getElem?_cons_succ, List.getElem?_cons_zero] at o0 o1
          have zr := R7.lt
          have zo7 := O7.lt
          go_wp2
          rw [F.out.1, F.out.2.1, F.out.2.2]
          exact bodyPost_ret (v := .tuple #[.agg #[.int .i64 z, .slice A6 (m + 1) c6], .int .i64 0]) (by simp [results, Try.results35, go_sem, r0, r1]) rfl ⟨A6, m + 1, c6, hs3 ++ [(s, A5, n, q5)], rfl, ((hP7.out.off R7 (by decide) (by decide) 0 _).off (R7.set_ 0 _) (by decide) (by decide) 1 _).mono (by omega), (hb7.setCell (by simp only; omega) _).setCell (by simp only; omega) _⟩
end Go.Proofs.Ytammapaockmjkaa
