/- ReadStore: the program's. -/
import Derived.Test.YtnjifhlabbejoaaGreatDoorRa
import Derived.Test.YtnjifhlabbejoaaGreatDoorDw
import Derived.Test.YtnjifhlabbejoaaGreatDoorCp
namespace Go.Proofs.YtnjifhlabbejoaaGreatDoor
open Go.ChangeShapes Go.WideShapes Go.ChangeAt Go.RowKit
set_option linter.unusedVariables false
set_option linter.unusedSimpArgs false
set_option maxHeartbeats 4000000 in
theorem linesOf_any (s : ByteArray) (w : World) (hs : s.size ≤ 1048576) (hw : RdW w) :
    Calls Tryz.prog 11 #[.string s] w fun e w' => ((∃ (ls : List ByteArray) (A : Option Addr) (n c : Nat), linesI s = some ls ∧ e = .returned (.tuple #[.slice A n c, .bool true]) ∧ ls.length = n ∧ RdL cs1 1 w' w'.heap.size A n c ls) ∨ (linesI s = none ∧ e = .returned (.tuple #[.slice none 0 0, .bool false]))) ∧ Below w.heap.size w w' := by
  have HW := Lib.hid hw
  clear hw
  by_cases h0 : s.size = 0
  · have HL : Hid (linesI s = some []) := by show _ = _; unfold linesI; rw [if_pos h0]
    have hl0 : s.toList = [] := by rw [byt_list]; exact List.length_eq_zero_iff.1 (by rw [Array.length_toList]; exact h0)
    clear h0
    go_enter Tryz.func11, Tryz.ntmps11
    go_wp2
    go_ret2
    exact ⟨.inl ⟨[], none, 0, 0, HL.out, rfl, rfl, rd_nil _ _⟩, Below.refl _ _⟩
  · have hl0 : ¬ s.toList = [] := by
      rw [byt_list]; intro e
      have := congrArg List.length e
      rw [Array.length_toList] at this
      exact h0 this
    have hl1 : s.toList.isEmpty = false := by
      cases hq : s.toList with
      | nil => exact absurd hq hl0
      | cons a r => rfl
    have HS := Lib.hid (fun w => Tryz.strings_HasSuffix s ⟨#[10]⟩ w (by omega))
    cases hx : Lib.hasSuffix s.data.toList [10] with
    | false =>
      have HX := Lib.hid (show Lib.hasSuffix s.data.toList (⟨#[10]⟩ : ByteArray).data.toList = false from hx)
      have HL : Hid (linesI s = none) := by show _ = _; unfold linesI; rw [if_neg h0, hx]; rfl
      clear hx h0
      go_enter Tryz.func11, Tryz.ntmps11
      go_wp2_with fail
      with_reducible refine (HS.out _).mono ?_
      rintro e w1 ⟨rfl, rfl⟩
      rw [HX.out]
      go_wp2
      go_ret2
      exact ⟨.inr ⟨HL.out, rfl⟩, Below.refl _ _⟩
    | true =>
      have HX := Lib.hid (show Lib.hasSuffix s.data.toList (⟨#[10]⟩ : ByteArray).data.toList = true from hx)
      have HT := Lib.hid (fun w => Tryz.strings_TrimSuffix s ⟨#[10]⟩ w (by omega))
      obtain ⟨T, hT⟩ : ∃ T : ByteArray, (⟨(Lib.trimSuffix s.data.toList (⟨#[10]⟩ : ByteArray).data.toList).toArray⟩ : ByteArray) = T := ⟨_, rfl⟩
      have hTs : T.size ≤ 1048576 := by rw [← hT]; exact Nat.le_trans trim_size hs
      have HL : Hid (linesI s = some (splS 10 T)) := by show _ = _; unfold linesI; rw [if_neg h0, hx, if_pos rfl, ← hT]
      simp only [hT] at HT
      clear hx h0 hT
      go_enter Tryz.func11, Tryz.ntmps11
      go_wp2_with fail
      with_reducible refine (HS.out _).mono ?_
      rintro e w1 ⟨rfl, rfl⟩
      rw [HX.out]
      go_wp2_with fail
      with_reducible refine (HT.out _).mono ?_
      rintro e w2 ⟨rfl, rfl⟩
      go_wp2_with fail
      with_reducible refine (iSplit_any 10 T _ hTs HW.out).mono ?_
      rintro e w3 ⟨A, rfl, hr, hb⟩
      have HR := Lib.hid hr
      clear hr
      go_wp2
      go_ret2
      exact ⟨.inl ⟨splS 10 T, A, _, _, HL.out, rfl, rfl, HR.out⟩, hb⟩
theorem readFeats_any (A : Option Addr) (n c : Nat) (ws : List ByteArray) (w : World) (hr : RdL cs1 1 w w.heap.size A n c ws) (hn : n ≤ 1048577) (hs : ∀ x ∈ ws, x.size ≤ 1048576) (hw : RdW w) :
    Calls Tryz.prog 14 #[.slice A n c] w fun e w' => ∃ (A' : Option Addr) (n' c' : Nat) (o : Bool), e = .returned (.tuple #[.slice A' n' c', .bool o]) ∧ (featsI ws).length = n' ∧ w'.ownsRow w.heap.size 60 3 (.slice A' n' c') n' ((featsI ws).flatMap c3) ∧ Below w.heap.size w w' := by
  refine (readFeatWords_any A n c ws w hr hn hs hw).mono ?_
  rintro e w' ⟨⟨L, A', c', rfl, hM, hL, _, hO⟩ | ⟨⟨x, hx, hxn⟩, rfl⟩, hb⟩
  · rw [featsI_yes hM]; exact ⟨A', n, c', true, rfl, hL, hO, hb⟩
  · rw [featsI_no hx hxn]; exact ⟨none, 0, 0, false, rfl, rfl, World.ownsRow_nil _ _ _ _, hb⟩
set_option maxRecDepth 100000 in
set_option maxHeartbeats 8000000 in
theorem iReadStore_any (s : ByteArray) (w : World) (hs : s.size ≤ 1048576) (hw : RdW w) :
    Calls Tryz.prog 5 #[.string s] w fun e w' => ∃ (A' : Option Addr) (n' c' : Nat) (hs' : List HT), e = .returned (.tuple #[.agg #[.int .i64 (rsZ s), .slice A' n' c'], .bool (rsB s)]) ∧ TS w' w.heap.size 42 60 A' n' c' hs' (rsL s) ∧ Below w.heap.size w w' := by
  obtain ⟨i0, hi, hz0, hz1, hz2⟩ := info_parts (show (Tryz.prog.info? 42).map (fun i => (i.zero, i.size, i.bytes)) = some (some (.agg #[.string ⟨#[]⟩, .slice none 0 0]), 2, 40) by kernel_rfl)
  have HW := Lib.hid hw
  clear hw
  go_enter Tryz.func5, Tryz.ntmps5
  go_wp2_with fail
  have R0 := Blk.new (w) 24 #[.int .i64 0, .slice none 0 0]
  have hbv : Below (w).heap.size (w) ((w).alloc (.cells #[.int .i64 0, .slice none 0 0] 24)) := (Below.refl _ _).alloc (Nat.le_refl _) _
  generalize (w).alloc (.cells #[.int .i64 0, .slice none 0 0] 24) = v at *
  with_reducible refine (linesOf_any s _ hs (HW.out.on hbv)).mono ?_
  rintro e w1 ⟨hcase, hb1⟩
  have R1 := R0.on hb1
  have HWv := HW.out.on hbv
  have HW1 := Lib.hid (HWv.on hb1)
  have HB1 := Lib.hid (below_on hb1 hbv)
  have hz1' := HB1.out.size
  clear hbv hb1 R0 HWv
  rcases hcase with ⟨ls, AL, n, cl, hL, rfl, hln, hr⟩ | ⟨hL, rfl⟩
  · have HL := Lib.hid hL
    have HLN := Lib.hid hln
    have HR := Lib.hid hr
    have HSUM := Lib.hid (linesI_sum hL)
    have hnb : n ≤ 1048576 := by have := (linesI_sum hL).1; have := sumZ_len ls; omega
    clear hL hln hr
    go_wp2_with fail
    have O0 := Blk.new (w1) 24 #[.int .i64 0, .slice none 0 0]
    have hbv2 : Below (w1).heap.size (w1) ((w1).alloc (.cells #[.int .i64 0, .slice none 0 0] 24)) := (Below.refl _ _).alloc (Nat.le_refl _) _
    generalize (w1).alloc (.cells #[.int .i64 0, .slice none 0 0] 24) = v2 at *
    have zO := O0.lt
    go_loopw [22] (fun i wr => ∃ (k m c' : Nat) (z : Int) (A' : Option Addr) (hs9 : List HT) (ts : List TV), k ≤ n ∧ i = .int .i64 k ∧ Below w1.heap.size w1 wr ∧ v2.heap.size ≤ wr.heap.size ∧ Blk wr w1.heap.size 24 #[.int .i64 z, .slice A' m c'] ∧ Hid (TS wr v2.heap.size 42 60 A' m c' hs9 ts) ∧ Hid (foldI (ls.take k) (0, []) = some (z, ts)) ∧ totT ts ≤ sumZ (ls.take k)) (fun i _ => n - (intOf i).toNat)
    case atStart => exact ⟨0, 0, 0, 0, none, [], [], by omega, rfl, hbv2, Nat.le_refl _, O0, TS.nil _ _ _ _, rfl, by simp [totT]⟩
    case round =>
      clear O0
      obtain ⟨k, m, c', z, A', hs9, ts, hk, rfl, hb, hsz, O1, HT, HF, htot⟩ := hrel
      have hsw := hb.size
      by_cases hlt : k < n
      · obtain ⟨b, off, ln, rfl, hbl, hxx, q0⟩ := (HR.out.below hb).atS hlt
        have hls : ln.size ≤ 1048576 := by have := HSUM.out.2 ln (List.mem_of_getElem? hxx.out); omega
        have HWr := Lib.hid (HW1.out.on hb)
        have HST := Lib.hid (sumZ_step hxx.out)
        have HXX := Lib.hid hxx.out
        have HTOT := Lib.hid htot
        have i1 : (k : Int) < (n : Int) := by omega
        have i2 : (0 : Int) ≤ (k : Int) := by omega
        obtain ⟨nw, hnw⟩ : ∃ nw, (splS 32 ln).length = nw := ⟨_, rfl⟩
        have hnw1 := splS_len 32 ln
        rw [hnw] at hnw1
        have HC := Lib.hid (wordsOf_any ln wr hls HWr.out)
        rw [hnw] at HC
        clear hxx htot
        go_wp2_with fail
        with_reducible refine HC.out.mono ?_
        rintro e w2 ⟨AW, rfl, hrw, hb2⟩
        obtain ⟨bw, ow, rfl, hbw9, hc9⟩ := wd_cells hrw (by omega)
        have HRW := Lib.hid hrw
        have HB2 := Lib.hid (below_app hb hb2 hsw)
        have O2 := O1.on hb2
        have HT2 := Lib.hid (HT.out.on hb2)
        have hsz2 : v2.heap.size ≤ w2.heap.size := Nat.le_trans hsz hb2.size
        have HW2 := Lib.hid (HWr.out.on hb2)
        clear HC hrw q0 hb hb2 HT O1 HWr hsz hsw hbl
        rcases hws : splS 32 ln with _ | ⟨a, _ | ⟨d, _ | ⟨p, r⟩⟩⟩
        · exact absurd hws (splS_ne 32 ln)
        · rw [hws] at hnw hc9
          obtain rfl : nw = 1 := hnw.symm
          have u0 : w2.cell? ⟨bw, ow, none⟩ = some (.string a) := by simpa using hc9 0 a rfl
          have HWS := Lib.hid hws
          clear hws hc9 HRW hnw O2
          by_cases t1 : a.toList = [115, 116, 111, 114, 101] <;> by_cases t2 : a.toList = [116, 101, 109, 112, 108, 97, 116, 101]
          all_goals
            have F := Lib.hid (rs_no (rsO_nofold HL.out (foldI_fail HXX.out HF.out (lineI_one HWS.out))))
            have R2 := R1.belowB HB2.out (by have := R1.lt; omega)
            have r0 := R2.cell 0
            have r1 := R2.cell 1
            simp only [List.getElem?_toArray, List.getElem?_cons_succ, List.getElem?_cons_zero] at r0 r1
            have f0 := R2.frozen 0
            have f1 := R2.frozen 1
            have zr := R2.lt
            have hbw := Lib.hid (below_app HB1.out HB2.out hz1')
            have hzw := hbw.out.size
            clear HF HT2 HST
            go_wp2
            rw [F.out.1, F.out.2.1, F.out.2.2]
            exact bodyPost_ret (v := .tuple #[.agg #[.int .i64 0, .slice none 0 0], .bool false]) (by simp [results, Tryz.results5, go_sem, r0, r1]) rfl ⟨none, 0, 0, [], rfl, TS.nil _ _ _ _, (hbw.out.setCell (by simp only; omega) _).setCell (by simp only; omega) _⟩
        · rw [hws] at hnw hc9
          obtain rfl : nw = 2 := hnw.symm
          have u0 : w2.cell? ⟨bw, ow, none⟩ = some (.string a) := by simpa using hc9 0 a rfl
          have u1 : w2.cell? ⟨bw, ow + 1, none⟩ = some (.string d) := hc9 1 d rfl
          have hds : d.size ≤ 1048576 := by have := splS_size (c := 32) (s := ln) (x := d) (by rw [hws]; simp); omega
          have HWS := Lib.hid hws
          clear hws hc9 HRW hnw
          by_cases ha : a = wStore
          · have t1 : a.toList = [115, 116, 111, 114, 101] := lst_yes ha
            have HF2 := Lib.hid (foldI_step HXX.out HF.out (lineI_store HWS.out ha))
            obtain ⟨vv, hvv⟩ : ∃ v, (rdD d).getD 0 = v := ⟨_, rfl⟩
            have HD := Lib.hid (iReadDecimal_any d w2 hds HW2.out)
            rw [hvv] at HF2 HD
            clear hvv HF
            go_wp2_with fail
            with_reducible refine HD.out.mono ?_
            rintro e w3 ⟨rfl, hb3⟩
            have O3 := O2.on hb3
            have HB3 := Lib.hid (below_app HB2.out hb3 HB2.out.size)
            have HT3 := Lib.hid (HT2.out.on hb3)
            have hsz3 : v2.heap.size ≤ w3.heap.size := Nat.le_trans hsz2 hb3.size
            clear hb3 HB2 HT2 u0 u1 O2 HD
            have o0 := O3.cell 0
            have o1 := O3.cell 1
            simp only [List.getElem?_toArray, List.getElem?_cons_succ, List.getElem?_cons_zero] at o0 o1
            have f0 := O3.frozen 0
            have f1 := O3.frozen 1
            have zo := O3.lt
            go_wp2
            refine ⟨⟨k + 1, m, c', vv, A', hs9, ts, by omega, by go_num, HB3.out.setCell (by simp only; omega) _, by simpa [World.setCell] using hsz3, by simpa using O3.set_ 0 (.int .i64 vv), HT3.out.far (by simp only; omega) _, HF2.out, ?_⟩, by simp [intOf]; omega⟩
            have h1 := HST.out
            have h2 := HTOT.out
            omega
          · have t1 : ¬ a.toList = [115, 116, 111, 114, 101] := lst_no ha
            clear u1 O2
            by_cases t2 : a.toList = [116, 101, 109, 112, 108, 97, 116, 101]
            all_goals
              have F := Lib.hid (rs_no (rsO_nofold HL.out (foldI_fail HXX.out HF.out (lineI_two HWS.out ha))))
              have R2 := R1.belowB HB2.out (by have := R1.lt; omega)
              have r0 := R2.cell 0
              have r1 := R2.cell 1
              simp only [List.getElem?_toArray, List.getElem?_cons_succ, List.getElem?_cons_zero] at r0 r1
              have f0 := R2.frozen 0
              have f1 := R2.frozen 1
              have zr := R2.lt
              have hbw := Lib.hid (below_app HB1.out HB2.out hz1')
              have hzw := hbw.out.size
              clear HF HT2 HST
              go_wp2
              rw [F.out.1, F.out.2.1, F.out.2.2]
              exact bodyPost_ret (v := .tuple #[.agg #[.int .i64 0, .slice none 0 0], .bool false]) (by simp [results, Tryz.results5, go_sem, r0, r1]) rfl ⟨none, 0, 0, [], rfl, TS.nil _ _ _ _, (hbw.out.setCell (by simp only; omega) _).setCell (by simp only; omega) _⟩
        · rw [hws] at hnw hc9
          obtain ⟨q, hq⟩ : ∃ q, (p :: r).length = q := ⟨_, rfl⟩
          have hnq : nw = q + 2 := by rw [← hq, ← hnw]; simp
          have hq1 : 1 ≤ q := by rw [← hq]; simp
          have u0 : w2.cell? ⟨bw, ow, none⟩ = some (.string a) := by simpa using hc9 0 a rfl
          have u1 : w2.cell? ⟨bw, ow + 1, none⟩ = some (.string d) := hc9 1 d rfl
          have k2 : ¬ (nw : Int) = 2 := by omega
          have k3 : (2 : Int) < (nw : Int) := by omega
          have k4 : (2 : Int) ≤ (nw : Int) := by omega
          by_cases ha : a = wTempl
          · have t2 : a.toList = [116, 101, 109, 112, 108, 97, 116, 101] := lst_yes ha
            have t1 : ¬ a.toList = [115, 116, 111, 114, 101] := by rw [t2]; decide
            have HF2 := Lib.hid (foldI_step HXX.out HF.out (lineI_templ hws ha))
            have HSZ := Lib.hid (szT_line hws (featsI_len (p :: r)))
            have hRS : RdL cs1 1 w2 w2.heap.size (some ⟨bw, ow + 2, none⟩) q (nw - 2) (p :: r) := by
              have h9 := RdL.sub cs1_len HRW.out (a := 2) (k := q) (by omega)
              rw [hws] at h9
              have e9 : ((a :: d :: p :: r).drop 2).take q = p :: r := by
                rw [show (a :: d :: p :: r).drop 2 = p :: r from rfl]
                exact List.take_of_length_le (by rw [hq]; exact Nat.le_refl _)
              rw [e9] at h9
              simpa using h9
            have HRS := Lib.hid hRS
            clear hRS
            have hps : ∀ x ∈ p :: r, x.size ≤ 1048576 := by
              intro x hx
              have := splS_size (c := 32) (s := ln) (x := x) (by rw [hws]; exact List.mem_cons_of_mem _ (List.mem_cons_of_mem _ hx))
              omega
            obtain ⟨L, hLL⟩ : ∃ L, featsI (p :: r) = L := ⟨_, rfl⟩
            have HD := Lib.hid (readFeats_any _ _ _ (p :: r) w2 HRS.out (by omega) hps HW2.out)
            rw [hLL] at HF2 HSZ HD
            have hnw2 : nw - 2 = q := by omega
            rw [hnw2] at HD
            have hds : d.size ≤ 1048576 := by have := splS_size (c := 32) (s := ln) (x := d) (by rw [hws]; simp); omega
            clear hLL HF hws hc9 HRW HRS hps hnw hq
            go_wp2_with fail
            with_reducible refine HD.out.mono ?_
            rintro e w3 ⟨A3, n3, q3, ok9, rfl, l3, o3, hb3⟩
            have O3 := O2.on hb3
            have HB3 := Lib.hid (below_app HB2.out hb3 HB2.out.size)
            have HT3 := Lib.hid (HT2.out.on hb3)
            have hsz3 : v2.heap.size ≤ w3.heap.size := Nat.le_trans hsz2 hb3.size
            have u1' := cell_on2 hb3 u1
            have hbw3 : bw < w3.heap.size := Nat.lt_of_lt_of_le hbw9 hb3.size
            have hzb := hb3.size
            have HO3 := Lib.hid o3
            have HL3 := Lib.hid l3
            have HTop := Lib.hid HT2.out.top
            have hml := Lib.hid HT3.out.x
            have hm9 : m ≤ 1048576 := by
              have h1 := hml.out
              have h2 := HTOT.out
              have h3 := sumZ_take ls k
              have h4 := HSUM.out.1
              unfold totT at h2
              omega
            clear hb3 HB2 HT2 u0 u1 O2 HD o3 l3 t1 t2 k2 k3 k4 hbw9
            have o0 := O3.cell 0
            have o1 := O3.cell 1
            simp only [List.getElem?_toArray, List.getElem?_cons_succ, List.getElem?_cons_zero] at o0 o1
            have f0 := O3.frozen 0
            have f1 := O3.frozen 1
            have zo := O3.lt
            have k5 : (1 : Int) < (q : Int) + 2 := by omega
            go_wp2_with fail
            go_region_law (first | (refine step_grow _ cT_len oneT (by rfl) (.tmp 64) (.tmp 70) 22 (by rfl) v2.heap.size 42 i0 _ Tryz.underlying22 hi hz0 hz1 hz2 rfl (by decide) (by decide) A' m c' hs9 (by rfl) ((own_below HT3.out.o ((Below.refl _ _).drew)).alloc _) w3.heap.size 1 (d, A3, n3, q3) (by rfl) (newsT (Blk.new _ 42 #[.string d, .slice A3 n3 q3])) (by omega) (by simp; omega) ?_; intro A4 c4 w4 hw4 hg4; obtain ⟨j0, j1, g0, g1, zr⟩ := ((O3.drew.alloc (.cells #[.string d, .slice A3 n3 q3] 42)).grown ((own_below HT3.out.o ((Below.refl _ _).drew)).alloc _) hg4 (by decide)).two))
            all_goals
              have hDa : Below w3.heap.size w3 (w3.drew.alloc (.cells #[.string d, .slice A3 n3 q3] 42)) := ((Below.refl _ _).drew).alloc (Nat.le_refl _) _
              have hT4 := Lib.hid (HT3.out.on hDa)
              have hO4 := Lib.hid (own_below HO3.out hDa)
              have O4 := (O3.on hDa).grown hT4.out.o hg4 (by decide)
              have hP := Lib.hid (TS.push hT4.out (by decide) hO4.out HL3.out (by omega) (fun i q a hi9 ha9 => (HTop.out i q a hi9 ha9).2) hw4 hg4)
              have hb4 : Below w1.heap.size w1 w4 := ((HB3.out.drew).alloc (by have := HB3.out.size; simpa using this) _).grown hg4 (by have := HB3.out.size; simp; omega) (fun q hq => by have := (hT4.out.o.lt q hq).1; omega)
              have HB4 := Lib.hid hb4
              have z4 : v2.heap.size ≤ w4.heap.size := by have h9 := hg4.size; simp at h9; omega
              clear hw4 hg4 hb4 hDa o0 o1 f0 f1 j0 j1 g0 g1 zr
              go_wp2
              refine ⟨⟨k + 1, m + 1, c4, z, A4, hs9 ++ [(d, A3, n3, q3)], ts ++ [(d, L)], by omega, by go_num, HB4.out.setCell (by simp only; omega) _, by simpa [World.setCell] using z4, by simpa using O4.set_ 1 (.slice A4 (m + 1) c4), hP.out.far (by simp only; omega) _, HF2.out, ?_⟩, by simp [intOf]; omega⟩
              rw [totT_snoc]
              have h1 := HST.out
              have h2 := HTOT.out
              have h3 := HSZ.out
              omega
          · have t2 : ¬ a.toList = [116, 101, 109, 112, 108, 97, 116, 101] := lst_no ha
            have HWS := Lib.hid hws
            clear hws hc9 HRW hnw O2 u1 hq
            by_cases t1 : a.toList = [115, 116, 111, 114, 101]
            all_goals
              have F := Lib.hid (rs_no (rsO_nofold HL.out (foldI_fail HXX.out HF.out (lineI_more HWS.out ha))))
              have R2 := R1.belowB HB2.out (by have := R1.lt; omega)
              have r0 := R2.cell 0
              have r1 := R2.cell 1
              simp only [List.getElem?_toArray, List.getElem?_cons_succ, List.getElem?_cons_zero] at r0 r1
              have f0 := R2.frozen 0
              have f1 := R2.frozen 1
              have zr := R2.lt
              have hbw := Lib.hid (below_app HB1.out HB2.out hz1')
              have hzw := hbw.out.size
              clear HF HT2 HST
              go_wp2
              rw [F.out.1, F.out.2.1, F.out.2.2]
              exact bodyPost_ret (v := .tuple #[.agg #[.int .i64 0, .slice none 0 0], .bool false]) (by simp [results, Tryz.results5, go_sem, r0, r1]) rfl ⟨none, 0, 0, [], rfl, TS.nil _ _ _ _, (hbw.out.setCell (by simp only; omega) _).setCell (by simp only; omega) _⟩
      · have hkn : k = n := by omega
        subst hkn
        rw [List.take_of_length_le (by rw [HLN.out]; exact Nat.le_refl _)] at HF htot
        have HTOT : Hid (totT ts ≤ 1048576) := by show _ ≤ _; have := HSUM.out.1; omega
        have RW1 := R1.belowB hb (by have := R1.lt; omega)
        have hbw := Lib.hid (below_app HB1.out hb hz1')
        have HTL := Lib.hid HT.out.tl
        have o0 := O1.cell 0
        have o1 := O1.cell 1
        simp only [List.getElem?_toArray, List.getElem?_cons_succ, List.getElem?_cons_zero] at o0 o1
        have zo := O1.lt
        clear hb htot R1
        cases hv : storeB z ts with
        | false =>
          have F := Lib.hid (rs_no (rsO_other HL.out HF.out (fun h => by rw [h.1] at hv; cases hv)))
          have HV := Lib.hid hv
          clear hv
          go_wp2_with fail
          with_reducible refine (iValidStore_any z _ _ _ ts _ HTL.out HTOT.out).mono ?_
          rintro e w3 ⟨rfl, hb3⟩
          rw [HV.out]
          have R3 := RW1.on hb3
          have HB3 := Lib.hid (below_on hb3 hbw.out)
          clear o0 o1 zo hb3 RW1
          have r0 := R3.cell 0
          have r1 := R3.cell 1
          simp only [List.getElem?_toArray, List.getElem?_cons_succ, List.getElem?_cons_zero] at r0 r1
          have f0 := R3.frozen 0
          have f1 := R3.frozen 1
          have zr := R3.lt
          have hz3 := HB3.out.size
          go_wp2
          rw [F.out.1, F.out.2.1, F.out.2.2]
          exact bodyPost_ret (v := .tuple #[.agg #[.int .i64 0, .slice none 0 0], .bool false]) (by simp [results, Tryz.results5, go_sem, r0, r1]) rfl ⟨none, 0, 0, [], rfl, TS.nil _ _ _ _, (HB3.out.setCell (by simp only; omega) _).setCell (by simp only; omega) _⟩
        | true =>
          have HV := Lib.hid hv
          have HX := Lib.hid (stR_lin hv)
          by_cases he : stT z ts = s
          · have F := Lib.hid (rs_yes (rsO_of ⟨hv, he⟩))
            have HE := Lib.hid he
            clear hv he
            go_wp2_with fail
            with_reducible refine (iValidStore_any z _ _ _ ts _ HTL.out HTOT.out).mono ?_
            rintro e w3 ⟨rfl, hb3⟩
            rw [HV.out]
            have R3 := RW1.on hb3
            have O3 := O1.on hb3
            have HB3 := Lib.hid (below_on hb3 hbw.out)
            have HT3 := Lib.hid (HT.out.on hb3)
            have HTL3 := Lib.hid HT3.out.tl
            have HTB := Lib.hid (HW.out.on HB3.out).tab
            clear o0 o1 zo hb3 RW1 O1
            have o0 := O3.cell 0
            have o1 := O3.cell 1
            simp only [List.getElem?_toArray, List.getElem?_cons_succ, List.getElem?_cons_zero] at o0 o1
            have zo := O3.lt
            go_wp2_with fail
            with_reducible refine (iStoreText_any z _ _ _ ts _ HTL3.out HTOT.out HTB.out).mono ?_
            rintro e w4 ⟨rfl, hb4⟩
            rw [HX.out, HE.out]
            have R4 := R3.on hb4
            have O4 := O3.on hb4
            have HB4 := Lib.hid (below_on hb4 HB3.out)
            have HT4 := Lib.hid (HT3.out.on hb4)
            clear o0 o1 zo hb4 R3 O3
            have r0 := R4.cell 0
            have r1 := R4.cell 1
            simp only [List.getElem?_toArray, List.getElem?_cons_succ, List.getElem?_cons_zero] at r0 r1
            have f0 := R4.frozen 0
            have f1 := R4.frozen 1
            have o0 := O4.cell 0
            have o1 := O4.cell 1
            simp only [List.getElem?_toArray, List.getElem?_cons_succ, List.getElem?_cons_zero] at o0 o1
            have zr := R4.lt
            have zo := O4.lt
            have hz4 := HB4.out.size
            go_wp2
            rw [F.out.1, F.out.2.1, F.out.2.2]
            refine bodyPost_ret (v := .tuple #[.agg #[.int .i64 z, .slice A' m c'], .bool true]) (by simp [results, Tryz.results5, go_sem, r0, r1]) rfl ⟨A', m, c', hs9, rfl, ?_, (HB4.out.setCell (by simp only; omega) _).setCell (by simp only; omega) _⟩
            exact ((HT4.out.far (by simp only; omega) _).far (by simp only; omega) _).mono (by omega)
          · have F := Lib.hid (rs_no (rsO_other HL.out HF.out (fun h => he h.2)))
            have HE := Lib.hid (byt_ne he)
            clear hv he
            go_wp2_with fail
            with_reducible refine (iValidStore_any z _ _ _ ts _ HTL.out HTOT.out).mono ?_
            rintro e w3 ⟨rfl, hb3⟩
            rw [HV.out]
            have R3 := RW1.on hb3
            have O3 := O1.on hb3
            have HB3 := Lib.hid (below_on hb3 hbw.out)
            have HTL3 := Lib.hid (HT.out.on hb3).tl
            have HTB := Lib.hid (HW.out.on HB3.out).tab
            clear o0 o1 zo hb3 RW1 O1
            have o0 := O3.cell 0
            have o1 := O3.cell 1
            simp only [List.getElem?_toArray, List.getElem?_cons_succ, List.getElem?_cons_zero] at o0 o1
            have zo := O3.lt
            go_wp2_with fail
            with_reducible refine (iStoreText_any z _ _ _ ts _ HTL3.out HTOT.out HTB.out).mono ?_
            rintro e w4 ⟨rfl, hb4⟩
            rw [HX.out]
            have hne := HE.out
            have R4 := R3.on hb4
            have HB4 := Lib.hid (below_on hb4 HB3.out)
            clear o0 o1 zo hb4 R3 O3
            have r0 := R4.cell 0
            have r1 := R4.cell 1
            simp only [List.getElem?_toArray, List.getElem?_cons_succ, List.getElem?_cons_zero] at r0 r1
            have f0 := R4.frozen 0
            have f1 := R4.frozen 1
            have zr := R4.lt
            have hz4 := HB4.out.size
            go_wp2
            rw [F.out.1, F.out.2.1, F.out.2.2]
            exact bodyPost_ret (v := .tuple #[.agg #[.int .i64 0, .slice none 0 0], .bool false]) (by simp [results, Tryz.results5, go_sem, r0, r1]) rfl ⟨none, 0, 0, [], rfl, TS.nil _ _ _ _, (HB4.out.setCell (by simp only; omega) _).setCell (by simp only; omega) _⟩
  · have F := Lib.hid (rs_no (rsO_nolines hL))
    have r0 := R1.cell 0
    have r1 := R1.cell 1
    simp only [List.getElem?_toArray, List.getElem?_cons_succ, List.getElem?_cons_zero] at r0 r1
    have f0 := R1.frozen 0
    have f1 := R1.frozen 1
    have zr := R1.lt
    go_wp2
    rw [F.out.1, F.out.2.1, F.out.2.2]
    exact bodyPost_ret (v := .tuple #[.agg #[.int .i64 0, .slice none 0 0], .bool false]) (by simp [results, Tryz.results5, go_sem, r0, r1]) rfl ⟨none, 0, 0, [], rfl, TS.nil _ _ _ _, (HB1.out.setCell (by simp only; omega) _).setCell (by simp only; omega) _⟩
end Go.Proofs.YtnjifhlabbejoaaGreatDoor
