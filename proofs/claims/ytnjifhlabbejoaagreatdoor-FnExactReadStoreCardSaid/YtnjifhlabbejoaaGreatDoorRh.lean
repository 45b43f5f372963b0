/- ReadStore: the reference's. -/
import Derived.Test.YtnjifhlabbejoaaGreatDoorRa
import Derived.Test.YtnjifhlabbejoaaGreatDoorRf
import Derived.Test.YtnjifhlabbejoaaGreatDoorCp
namespace Go.Proofs.YtnjifhlabbejoaaGreatDoor
open Go.ChangeShapes Go.WideShapes Go.ChangeAt Go.RowKit
set_option linter.unusedVariables false
set_option linter.unusedSimpArgs false
theorem app_last {α : Type} {ls ls' : List α} {x y : α} (h : ls ++ [x] = ls' ++ [y]) : ls = ls' ∧ x = y := by
  obtain ⟨h1, h2⟩ := List.append_inj' h rfl
  exact ⟨h1, by simpa using h2⟩
def wrd (ln : ByteArray) : TV := match splS 32 ln with
  | _ :: d :: rest => (d, rest.map fun x => (wordS x).getD (0, 0, 0))
  | _ => (⟨#[]⟩, [])
def gd (t : TV) : Prop := splS 32 (tlS t) = tlW t ∧ (t.2.map ftS).map wordS = t.2.map some
theorem gd_wrd {t : TV} (h : gd t) : wrd (tlS t) = t := by
  obtain ⟨h1, h2⟩ := h
  unfold wrd
  rw [h1]
  show (t.1, (t.2.map ftS).map fun x => (wordS x).getD (0, 0, 0)) = t
  have h3 : ((t.2.map ftS).map wordS).map (fun o => o.getD (0, 0, 0)) = (t.2.map some).map (fun o => o.getD (0, 0, 0)) := by rw [h2]
  rw [List.map_map (l := t.2) (f := some)] at h3
  have h4 : (t.2.map ftS).map (fun x => (wordS x).getD (0, 0, 0)) = t.2 := by
    rw [List.map_map (l := t.2.map ftS)] at h3
    exact h3.trans (List.map_id _)
  rw [h4]
theorem gd_ok {t : TV} (h1 : labS t.1 = true) (h2 : featsOk 72 t.2 = true) : gd t := ⟨splS_tlS h1, tlW_featsS h2⟩
theorem gd_read {ln a d p : ByteArray} {r : List ByteArray} {L : List T3} (h : splS 32 ln = a :: d :: p :: r) (ha : a = wTempl) (hM : (p :: r).map wordS = L.map some) : ln = tlS (d, L) ∧ gd (d, L) := by
  subst ha
  have e : p :: r = L.map ftS := words_back wordS_back hM
  have e2 : ln = tlS (d, L) := by
    have h1 := jnB_splS 32 ln
    rw [h, e] at h1
    exact h1.symm
  refine ⟨e2, ?_, ?_⟩
  · rw [← e2, h, e]; rfl
  · show (L.map ftS).map wordS = _
    rw [← e]; exact hM
theorem l0_read {ln a d : ByteArray} {z : Int} (h : splS 32 ln = [a, d]) (ha : a = wStore) (hz : rdD d = some z) : ln = l0S z ∧ rdD (decS z) = some z := by
  subst ha
  have e := rdD_some hz
  refine ⟨?_, by rw [e]; exact hz⟩
  have h1 := jnB_splS 32 ln
  rw [h, ← e] at h1
  exact h1.symm
theorem linS_inj {z z' : Int} {ts ts' : List TV} (g : ∀ t ∈ ts, gd t) (g' : ∀ t ∈ ts', gd t) (hz : rdD (decS z) = some z) (hz' : rdD (decS z') = some z') (h : linS z ts = linS z' ts') : z = z' ∧ ts = ts' := by
  unfold linS at h
  rw [List.cons.injEq] at h
  constructor
  · have h1 : l0W z = l0W z' := by rw [← splS_l0S, ← splS_l0S, h.1]
    unfold l0W at h1
    rw [List.cons.injEq, List.cons.injEq] at h1
    rw [h1.2.1, hz'] at hz
    exact (Option.some.inj hz).symm
  · have key : ∀ l : List TV, (∀ t ∈ l, gd t) → (l.map tlS).map wrd = l := by
      intro l hl
      rw [List.map_map]
      exact (List.map_congr_left (fun t ht => gd_wrd (hl t ht))).trans (List.map_id _)
    rw [← key ts g, ← key ts' g', h.2]
theorem gd_all {z : Int} {ts : List TV} (h : storeB z ts = true) : ∀ t ∈ ts, gd t := fun t ht => gd_ok (storeB_all h t ht).1 (storeB_all h t ht).2
theorem isST_ls {s : ByteArray} {z : Int} {ts : List TV} {ls : List ByteArray} (h : isST s z ts) (hsp : splS 10 s = ls ++ [bNo]) : ls = linS z ts := by
  rw [isST_split h] at hsp
  exact (app_last hsp).1.symm
theorem rsO_line0 {s ln : ByteArray} {ls : List ByteArray} (hsp : splS 10 s = ls ++ [bNo]) (h0 : ls[0]? = some ln) (hb : ∀ d, splS 32 ln = [wStore, d] → rdD d = none) : rsO s = none := rsO_none (fun z ts h => by
  rw [isST_ls h hsp] at h0
  unfold linS at h0
  rw [List.getElem?_cons_zero] at h0
  cases h0
  have h1 := hb (decS z) (splS_l0S z)
  rw [small_band h.1] at h1
  cases h1)
theorem rsO_lineK {s ln : ByteArray} {k : Nat} {ls : List ByteArray} (hsp : splS 10 s = ls ++ [bNo]) (h0 : ls[k + 1]? = some ln) (hb : ∀ (d p : ByteArray) (r : List ByteArray) (L : List T3), splS 32 ln = wTempl :: d :: p :: r → (p :: r).map wordS = L.map some → False) : rsO s = none := rsO_none (fun z ts h => by
  rw [isST_ls h hsp] at h0
  unfold linS at h0
  rw [List.getElem?_cons_succ, List.getElem?_map, Option.map_eq_some_iff] at h0
  obtain ⟨t, ht, rfl⟩ := h0
  have hs := storeB_all h.1 t (List.mem_of_getElem? ht)
  have h1 := splS_tlS hs.1
  have h2 := tlW_featsS hs.2
  unfold tlW at h1
  have hne := featsOk_ne hs.2
  obtain ⟨sl, x⟩ := t
  match x, hne with
  | q :: x, _ =>
    rw [List.map_cons] at h1
    exact hb _ _ _ _ h1 h2)
theorem rsO_bad {s : ByteArray} {z : Int} {ts : List TV} {ls : List ByteArray} (hsp : splS 10 s = ls ++ [bNo]) (hl : ls = linS z ts) (g : ∀ t ∈ ts, gd t) (hz : rdD (decS z) = some z) (hv : storeB z ts = false) : rsO s = none := rsO_none (fun z' ts' h => by
  have h1 := isST_ls h hsp
  rw [hl] at h1
  obtain ⟨rfl, rfl⟩ := linS_inj g (gd_all h.1) hz (small_band h.1) h1
  rw [h.1] at hv
  cases hv)
theorem isST_good {s : ByteArray} {z : Int} {ts : List TV} {ls : List ByteArray} (hsp : splS 10 s = ls ++ [bNo]) (hl : ls = linS z ts) (hv : storeB z ts = true) : isST s z ts := by
  refine ⟨hv, ?_⟩
  unfold stT
  rw [← hl]
  exact (back_text hsp (by rw [hl]; simp [linS])).symm
theorem lines_sum {s : ByteArray} {ls : List ByteArray} (hsp : splS 10 s = ls ++ [bNo]) : sumZ ls ≤ s.size ∧ (∀ x ∈ ls, x.size ≤ s.size) := by
  have h := splS_sum 10 s
  rw [hsp, sumZ_app, sumZ_cons] at h
  have e : (bNo : ByteArray).size = 0 := rfl
  constructor
  · omega
  · intro x hx
    exact splS_size (c := 10) (by rw [hsp]; exact List.mem_append_left _ hx)
theorem linS_snoc {z : Int} {ts : List TV} {t : TV} : linS z (ts ++ [t]) = linS z ts ++ [tlS t] := by unfold linS; simp
theorem l11Feats_two (A : Option Addr) (n c : Nat) (ws : List ByteArray) (w : World) (hr : RdL cs1 1 w w.heap.size A n c ws) (hn : n ≤ 1048577) (hs : ∀ x ∈ ws, x.size ≤ 1048576) :
    Calls Tryz.prog 21 #[.slice A n c] w fun e w' => ∃ (L : List T3) (A' : Option Addr) (n' c' : Nat) (o : Bool), e = .returned (.tuple #[.slice A' n' c', .bool o]) ∧ L.length = n' ∧ n' ≤ n ∧ w'.ownsRow w.heap.size 60 3 (.slice A' n' c') n' (L.flatMap c3) ∧
      ((o = true ∧ ws.map wordS = L.map some) ∨ (o = false ∧ ∃ x ∈ ws, wordS x = none)) ∧ Below w.heap.size w w' := by
  refine (l11Feats_any A n c ws w hr hn hs).mono ?_
  rintro e w' ⟨⟨L, A', c', rfl, hM, hL, hO⟩ | ⟨hx, rfl⟩, hb⟩
  · exact ⟨L, A', n, c', true, rfl, hL, Nat.le_refl _, hO, .inl ⟨rfl, hM⟩, hb⟩
  · exact ⟨[], none, 0, 0, false, rfl, rfl, Nat.zero_le _, World.ownsRow_nil _ _ _ _, .inr ⟨rfl, hx⟩, hb⟩
set_option maxRecDepth 100000 in
set_option maxHeartbeats 16000000 in
theorem l11Read_any (s : ByteArray) (ls : List ByteArray) (A : Option Addr) (n c : Nat) (w : World) (hsp : splS 10 s = ls ++ [bNo]) (hr : RdL cs1 1 w w.heap.size A n c ls) (h1 : 1 ≤ n) (hs : s.size ≤ 1048576) :
    Calls Tryz.prog 10 #[.slice A n c] w fun e w' => ∃ (z : Int) (A' : Option Addr) (m c' : Nat) (hs' : List HT) (b : Bool), e = .returned (.tuple #[.agg #[.int .i64 z, .slice A' m c'], .bool b]) ∧
      ((b = true ∧ ∃ ts, rsO s = some (z, ts) ∧ TS w' w.heap.size 42 60 A' m c' hs' ts) ∨ (b = false ∧ rsO s = none)) ∧ Below w.heap.size w w' := by
  obtain ⟨i0, hi, hz0, hz1, hz2⟩ := info_parts (show (Tryz.prog.info? 42).map (fun i => (i.zero, i.size, i.bytes)) = some (some (.agg #[.string ⟨#[]⟩, .slice none 0 0]), 2, 40) by kernel_rfl)
  have HSP := Lib.hid hsp
  have HSUM := Lib.hid (lines_sum hsp)
  have HLN := Lib.hid hr.len
  have hnb : n ≤ 1048576 := by have := (lines_sum hsp).1; have := sumZ_len ls; have := hr.len; omega
  obtain ⟨b, off, ln0, rfl, hbl, hx0, q0⟩ := hr.atS (k := 0) (by omega)
  have HX0 := Lib.hid hx0.out
  have hls0 : ln0.size ≤ 1048576 := by have := HSUM.out.2 ln0 (List.mem_of_getElem? hx0.out); omega
  simp only [Nat.add_zero] at q0
  have HR := Lib.hid hr
  have HC := Lib.hid (fun w => l01Split_at 32 32 rfl ln0 w hls0)
  obtain ⟨nw, hnw⟩ : ∃ nw, (splS 32 ln0).length = nw := ⟨_, rfl⟩
  have hnw1 := splS_len 32 ln0
  rw [hnw] at hnw1 HC
  have kn : (0 : Int) < (n : Int) := by omega
  clear hsp hr hx0
  go_enter Tryz.func10, Tryz.ntmps10
  go_wp2_with fail
  have R0 := Blk.new (w) 24 #[.int .i64 0, .slice none 0 0]
  have hbv : Below (w).heap.size (w) ((w).alloc (.cells #[.int .i64 0, .slice none 0 0] 24)) := (Below.refl _ _).alloc (Nat.le_refl _) _
  generalize (w).alloc (.cells #[.int .i64 0, .slice none 0 0] 24) = v at *
  with_reducible refine (HC.out _).mono ?_
  rintro e w1 ⟨AW, cw, rfl, ow1, hb1⟩
  have HRW := Lib.hid (RdL.of_own (f := cs1) (s := 1) hnw ow1)
  obtain ⟨bw, fw, rfl, hbw9, hc9⟩ := wd_cells HRW.out (by omega)
  have RR := R0.on hb1
  have HBW := Lib.hid (below_on hb1 hbv)
  have hzw := HBW.out.size
  clear R0 hbv hb1 ow1 HC q0 hbl
  rcases hws : splS 32 ln0 with _ | ⟨a, _ | ⟨d, _ | ⟨p, r⟩⟩⟩
  · exact absurd hws (splS_ne 32 ln0)
  · have HNO := Lib.hid (rsO_line0 HSP.out HX0.out (fun d h => by rw [hws] at h; cases h))
    rw [hws] at hnw
    obtain rfl : nw = 1 := hnw.symm
    clear hws hc9
    have r0 := RR.cell 0
    have r1 := RR.cell 1
    simp only [List.getElem?_toArray, List.getElem?_cons_succ, List.getElem?_cons_zero] at r0 r1
    have f0 := RR.frozen 0
    have f1 := RR.frozen 1
    have zr := RR.lt
    go_wp2
    exact bodyPost_ret (v := .tuple #[.agg #[.int .i64 0, .slice none 0 0], .bool false]) (by simp [results, Tryz.results10, go_sem, r0, r1]) rfl ⟨0, none, 0, 0, [], false, rfl, .inr ⟨rfl, HNO.out⟩, (HBW.out.setCell (by simp only; omega) _).setCell (by simp only; omega) _⟩
  · rw [hws] at hnw hc9
    obtain rfl : nw = 2 := hnw.symm
    have u0 : w1.cell? ⟨bw, fw, none⟩ = some (.string a) := by simpa using hc9 0 a rfl
    have u1 : w1.cell? ⟨bw, fw + 1, none⟩ = some (.string d) := hc9 1 d rfl
    have hds : d.size ≤ 1048576 := by have := splS_size (c := 32) (s := ln0) (x := d) (by rw [hws]; simp); omega
    by_cases ha : a = wStore
    · have t1 : a.toList = [115, 116, 111, 114, 101] := lst_yes ha
      obtain ⟨z, hz⟩ : ∃ z, (rdD d).getD 0 = z := ⟨_, rfl⟩
      obtain ⟨ob, hob⟩ : ∃ o, (rdD d).isSome = o := ⟨_, rfl⟩
      have HN := Lib.hid (fun w => l01Number_any d w hds)
      rw [hz, hob] at HN
      have HST0 : Hid ((ob = true ∧ ls.take 1 = linS z [] ∧ rdD (decS z) = some z) ∨ (ob = false ∧ rsO s = none)) := by
        show _ ∨ _
        cases ob with
        | true =>
          obtain ⟨e1, e2⟩ := l0_read hws ha (opt_some hz hob)
          refine .inl ⟨rfl, ?_, e2⟩
          rw [show (1 : Nat) = 0 + 1 from rfl, take_succ_of HX0.out, List.take_zero, e1]; rfl
        | false => exact .inr ⟨rfl, rsO_line0 HSP.out HX0.out (fun d' h => by rw [hws] at h; cases h; exact opt_none hob)⟩
      clear hz hob hws hc9 HRW hnw
      go_wp2_with fail
      with_reducible refine (HN.out _).mono ?_
      rintro e w2 ⟨rfl, hb2⟩
      have R2 := RR.on hb2
      have HBW2 := Lib.hid (below_on hb2 HBW.out)
      have hzw2 := HBW2.out.size
      clear RR HBW hb2 u0 u1 HN t1
      go_wp2_with fail
      have O0 := Blk.new (w2) 24 #[.int .i64 z, .slice none 0 0]
      have hbv2 : Below (w2).heap.size (w2) ((w2).alloc (.cells #[.int .i64 z, .slice none 0 0] 24)) := (Below.refl _ _).alloc (Nat.le_refl _) _
      generalize (w2).alloc (.cells #[.int .i64 z, .slice none 0 0] 24) = v2 at *
      have zO := O0.lt
      go_loopw [6, 8] (fun okv i wr => ∃ (k m c' : Nat) (A' : Option Addr) (hs9 : List HT) (bb : Bool), k + 1 ≤ n ∧ i = .int .i64 ((k + 1 : Nat) : Int) ∧ okv = .bool bb ∧ Below w2.heap.size w2 wr ∧ v2.heap.size ≤ wr.heap.size ∧ Blk wr w2.heap.size 24 #[.int .i64 z, .slice A' m c'] ∧
        Hid ((bb = true ∧ ∃ ts, TS wr v2.heap.size 42 60 A' m c' hs9 ts ∧ ls.take (k + 1) = linS z ts ∧ (∀ t ∈ ts, gd t) ∧ rdD (decS z) = some z ∧ totT ts ≤ sumZ (ls.take (k + 1))) ∨ (bb = false ∧ rsO s = none))) (fun _ i _ => n - (intOf i).toNat)
      case atStart =>
        refine ⟨0, 0, 0, none, [], ob, by omega, rfl, rfl, hbv2, Nat.le_refl _, O0, ?_⟩
        show _ ∨ _
        rcases HST0.out with ⟨h1, h2, h3⟩ | ⟨h1, h2⟩
        · exact .inl ⟨h1, [], TS.nil _ _ _ _, h2, (fun t ht => by cases ht), h3, by simp [totT]⟩
        · exact .inr ⟨h1, h2⟩
      case round =>
        clear O0 HST0
        obtain ⟨k, m, c', A', hs9, bb, hk, rfl, rfl, hb, hsz, O1, HC⟩ := hrel
        have hsw := hb.size
        cases bb with
        | false =>
          have HNO : Hid (rsO s = none) := by
            show _ = _
            rcases HC.out with ⟨h, _⟩ | ⟨_, h⟩
            · cases h
            · exact h
          have R1 := R2.belowB hb (by have := R2.lt; omega)
          have HBW := Lib.hid (below_app HBW2.out hb hzw2)
          have hzw := HBW.out.size
          clear HC hb
          by_cases hlt : k + 1 < n
          all_goals
            have o0 := O1.cell 0
            have o1 := O1.cell 1
            simp only [List.getElem?_toArray, List.getElem?_cons_succ, List.getElem?_cons_zero] at o0 o1
            have r0 := R1.cell 0
            have r1 := R1.cell 1
            simp only [List.getElem?_toArray, List.getElem?_cons_succ, List.getElem?_cons_zero] at r0 r1
            have f0 := R1.frozen 0
            have f1 := R1.frozen 1
            have zo := O1.lt
            have zr := R1.lt
            go_wp2_with fail
            go_region_law (fail)
            all_goals
              go_wp2
              exact bodyPost_ret (v := .tuple #[.agg #[.int .i64 z, .slice A' m c'], .bool false]) (by simp [results, Tryz.results10, go_sem, r0, r1]) rfl ⟨z, A', m, c', hs9, false, rfl, .inr ⟨rfl, HNO.out⟩, (HBW.out.drew.setCell (by simp only; omega) _).setCell (by simp only; omega) _⟩
        | true =>
          obtain ⟨ts, HT, HLS, HG, HZ, HTOT⟩ : ∃ ts, Hid (TS wr v2.heap.size 42 60 A' m c' hs9 ts) ∧ Hid (ls.take (k + 1) = linS z ts) ∧ Hid (∀ t ∈ ts, gd t) ∧ Hid (rdD (decS z) = some z) ∧ Hid (totT ts ≤ sumZ (ls.take (k + 1))) := by
            rcases HC.out with ⟨_, h⟩ | ⟨h, _⟩
            · exact h
            · cases h
          clear HC
          by_cases hlt : k + 1 < n
          · obtain ⟨b9, off9, ln, he, hbl9, hxx, q0⟩ := (HR.out.on (below_app HBW2.out hb hzw2)).atS hlt
            cases he
            have HXX := Lib.hid hxx.out
            have hls : ln.size ≤ 1048576 := by have := HSUM.out.2 ln (List.mem_of_getElem? hxx.out); omega
            have HST := Lib.hid (sumZ_step hxx.out)
            have HTK := Lib.hid (take_succ_of hxx.out)
            have i1 : (k : Int) + 1 < (n : Int) := by omega
            have i2 : (0 : Int) ≤ (k : Int) + 1 := by omega
            have i3 : ((k : Int) + 1).toNat = k + 1 := by omega
            obtain ⟨nw, hnw⟩ : ∃ nw, (splS 32 ln).length = nw := ⟨_, rfl⟩
            have hnw2 := splS_len 32 ln
            have HC := Lib.hid (l01Split_at 32 32 rfl ln wr hls)
            rw [hnw] at HC hnw2
            clear hxx
            go_wp2_with fail
            with_reducible refine HC.out.mono ?_
            rintro e w3 ⟨AW3, cw3, rfl, ow3, hb3⟩
            have HRW := Lib.hid (RdL.of_own (f := cs1) (s := 1) hnw ow3)
            obtain ⟨bw3, fw3, rfl, hbw3, hc9⟩ := wd_cells HRW.out (by omega)
            have HB3 := Lib.hid (below_app hb hb3 hsw)
            have O3 := O1.on hb3
            have HT3 := Lib.hid (HT.out.on hb3)
            have hsz3 : v2.heap.size ≤ w3.heap.size := Nat.le_trans hsz hb3.size
            clear HC q0 hb hb3 HT O1 hsz hsw hbl9 ow3
            rcases hws : splS 32 ln with _ | ⟨a9, _ | ⟨d9, _ | ⟨p9, r9⟩⟩⟩
            · exact absurd hws (splS_ne 32 ln)
            · have HNO := Lib.hid (rsO_lineK HSP.out HXX.out (fun d p r L h => by rw [hws] at h; cases h))
              rw [hws] at hnw
              obtain rfl : nw = 1 := hnw.symm
              clear hws hc9 HT3 HST HTK HLS HTOT HG
              have RR := R2.belowB HB3.out (by have := R2.lt; omega)
              have HBW := Lib.hid (below_app HBW2.out HB3.out hzw2)
              have hzw := HBW.out.size
              have r0 := RR.cell 0
              have r1 := RR.cell 1
              simp only [List.getElem?_toArray, List.getElem?_cons_succ, List.getElem?_cons_zero] at r0 r1
              have f0 := RR.frozen 0
              have f1 := RR.frozen 1
              have zr := RR.lt
              go_wp2
              exact bodyPost_ret (v := .tuple #[.agg #[.int .i64 0, .slice none 0 0], .bool false]) (by simp [results, Tryz.results10, go_sem, r0, r1]) rfl ⟨0, none, 0, 0, [], false, rfl, .inr ⟨rfl, HNO.out⟩, (HBW.out.setCell (by simp only; omega) _).setCell (by simp only; omega) _⟩
            · have HNO := Lib.hid (rsO_lineK HSP.out HXX.out (fun d p r L h => by rw [hws] at h; cases h))
              rw [hws] at hnw
              obtain rfl : nw = 2 := hnw.symm
              clear hws hc9 HT3 HST HTK HLS HTOT HG
              have RR := R2.belowB HB3.out (by have := R2.lt; omega)
              have HBW := Lib.hid (below_app HBW2.out HB3.out hzw2)
              have hzw := HBW.out.size
              have r0 := RR.cell 0
              have r1 := RR.cell 1
              simp only [List.getElem?_toArray, List.getElem?_cons_succ, List.getElem?_cons_zero] at r0 r1
              have f0 := RR.frozen 0
              have f1 := RR.frozen 1
              have zr := RR.lt
              go_wp2
              exact bodyPost_ret (v := .tuple #[.agg #[.int .i64 0, .slice none 0 0], .bool false]) (by simp [results, Tryz.results10, go_sem, r0, r1]) rfl ⟨0, none, 0, 0, [], false, rfl, .inr ⟨rfl, HNO.out⟩, (HBW.out.setCell (by simp only; omega) _).setCell (by simp only; omega) _⟩
            · rw [hws] at hnw hc9
              obtain ⟨q, hq⟩ : ∃ q, (p9 :: r9).length = q := ⟨_, rfl⟩
              have hnq : nw = q + 2 := by rw [← hq, ← hnw]; simp
              have hq1 : 1 ≤ q := by rw [← hq]; simp
              have u0 : w3.cell? ⟨bw3, fw3, none⟩ = some (.string a9) := by simpa using hc9 0 a9 rfl
              have u1 : w3.cell? ⟨bw3, fw3 + 1, none⟩ = some (.string d9) := hc9 1 d9 rfl
              have k3 : ¬ (nw : Int) < 3 := by omega
              have k4 : (2 : Int) ≤ (nw : Int) := by omega
              have k6 : (0 : Int) < (nw : Int) := by omega
              by_cases ha9 : a9 = wTempl
              · have t2 : a9.toList = [116, 101, 109, 112, 108, 97, 116, 101] := lst_yes ha9
                have hRS : RdL cs1 1 w3 w3.heap.size (some ⟨bw3, fw3 + 2, none⟩) q (cw3 - 2) (p9 :: r9) := by
                  have h9 := RdL.sub cs1_len HRW.out (a := 2) (k := q) (by omega)
                  rw [hws] at h9
                  have e9 : ((a9 :: d9 :: p9 :: r9).drop 2).take q = p9 :: r9 := by
                    rw [show (a9 :: d9 :: p9 :: r9).drop 2 = p9 :: r9 from rfl]
                    exact List.take_of_length_le (by rw [hq]; exact Nat.le_refl _)
                  rw [e9] at h9
                  simpa using h9
                have hps : ∀ x ∈ p9 :: r9, x.size ≤ 1048576 := by
                  intro x hx
                  have := splS_size (c := 32) (s := ln) (x := x) (by rw [hws]; exact List.mem_cons_of_mem _ (List.mem_cons_of_mem _ hx))
                  omega
                have HD := Lib.hid (l11Feats_two _ _ _ (p9 :: r9) w3 hRS (by omega) hps)
                have HWS := Lib.hid hws
                have HCAP := HRW.out.cap
                clear hRS hps hnw hc9 hws
                subst hnq
                have hnw9 : q + 2 - 2 = q := by omega
                go_wp2_with fail
                with_reducible refine HD.out.mono ?_
                rintro e w4 ⟨L, A4, n4, q4, ok9, rfl, l4, hn4, o4, hcase, hb4⟩
                have O4 := O3.on hb4
                have HB4 := Lib.hid (below_app HB3.out hb4 HB3.out.size)
                have HT4 := Lib.hid (HT3.out.on hb4)
                have hsz4 : v2.heap.size ≤ w4.heap.size := Nat.le_trans hsz3 hb4.size
                have u1' := cell_on2 hb4 u1
                have hbw4 : bw3 < w4.heap.size := Nat.lt_of_lt_of_le hbw3 hb4.size
                have hzb := hb4.size
                have HO4 := Lib.hid o4
                have HL4 := Lib.hid l4
                have HCS := Lib.hid hcase
                have HTop := Lib.hid HT3.out.top
                have hml := Lib.hid HT4.out.x
                have HSZ := Lib.hid (szT_line (ln := ln) (L := L) HWS.out (by rw [l4, hq]; exact hn4))
                have hm9 : m ≤ 1048576 := by
                  have h1 := hml.out
                  have h2 := HTOT.out
                  have h3 := sumZ_take ls (k + 1)
                  have h4 := HSUM.out.1
                  unfold totT at h2
                  omega
                clear hb4 HB3 HT3 u0 u1 O3 HD o4 l4 t2 k3 k4 k6 hbw3 hcase hnw9 hn4 HRW
                have o0 := O4.cell 0
                have o1 := O4.cell 1
                simp only [List.getElem?_toArray, List.getElem?_cons_succ, List.getElem?_cons_zero] at o0 o1
                have f0 := O4.frozen 0
                have f1 := O4.frozen 1
                have zo := O4.lt
                have k5 : (1 : Int) < (q : Int) + 2 := by omega
                go_wp2_with fail
                go_region_law (first | (refine step_grow _ cT_len oneT (by rfl) (.tmp 66) (.tmp 72) 22 (by rfl) v2.heap.size 42 i0 _ Tryz.underlying22 hi hz0 hz1 hz2 rfl (by decide) (by decide) A' m c' hs9 (by rfl) ((own_below HT4.out.o ((Below.refl _ _).drew)).alloc _) w4.heap.size 1 (d9, A4, n4, q4) (by rfl) (newsT (Blk.new _ 42 #[.string d9, .slice A4 n4 q4])) (by omega) (by simp; omega) ?_; intro A5 c5 w5 hw5 hg5; obtain ⟨j0, j1, g0, g1, zr⟩ := ((O4.drew.alloc (.cells #[.string d9, .slice A4 n4 q4] 42)).grown ((own_below HT4.out.o ((Below.refl _ _).drew)).alloc _) hg5 (by decide)).two))
                all_goals
                  have hDa : Below w4.heap.size w4 (w4.drew.alloc (.cells #[.string d9, .slice A4 n4 q4] 42)) := ((Below.refl _ _).drew).alloc (Nat.le_refl _) _
                  have hT5 := Lib.hid (HT4.out.on hDa)
                  have hO5 := Lib.hid (own_below HO4.out hDa)
                  have O5 := (O4.on hDa).grown hT5.out.o hg5 (by decide)
                  have hP := Lib.hid (TS.push hT5.out (by decide) hO5.out HL4.out (by omega) (fun i q a hi9 ha9 => (HTop.out i q a hi9 ha9).2) hw5 hg5)
                  have hb5 : Below w2.heap.size w2 w5 := ((HB4.out.drew).alloc (by have := HB4.out.size; simpa using this) _).grown hg5 (by have := HB4.out.size; simp; omega) (fun q hq => by have := (hT5.out.o.lt q hq).1; omega)
                  have HB5 := Lib.hid hb5
                  have z5 : v2.heap.size ≤ w5.heap.size := by have h9 := hg5.size; simp at h9; omega
                  have HNEXT : Hid ((ok9 = true ∧ ls.take (k + 1 + 1) = linS z (ts ++ [(d9, L)]) ∧ (∀ t ∈ ts ++ [(d9, L)], gd t)) ∨ (ok9 = false ∧ rsO s = none)) := by
                    show _ ∨ _
                    rcases HCS.out with ⟨h, hM⟩ | ⟨h, hx⟩
                    · obtain ⟨e1, e2⟩ := gd_read HWS.out ha9 hM
                      refine .inl ⟨h, ?_, ?_⟩
                      · rw [HTK.out, HLS.out, linS_snoc, e1]
                      · intro t ht
                        rcases List.mem_append.1 ht with h5 | h5
                        · exact HG.out t h5
                        · rw [List.mem_singleton] at h5; subst h5; exact e2
                    · refine .inr ⟨h, rsO_lineK HSP.out HXX.out (fun d p r L' h6 hM => ?_)⟩
                      rw [HWS.out] at h6
                      cases h6
                      obtain ⟨x, hx1, hx2⟩ := hx
                      have h7 : wordS x ∈ L'.map some := by rw [← hM]; exact List.mem_map.2 ⟨x, hx1, rfl⟩
                      rw [hx2] at h7
                      obtain ⟨y, _, hy⟩ := List.mem_map.1 h7
                      cases hy
                  clear hw5 hg5 hb5 hDa o0 o1 f0 f1 j0 j1 g0 g1 zr
                  go_wp2
                  refine ⟨⟨k + 1, m + 1, c5, A5, hs9 ++ [(d9, A4, n4, q4)], ok9, by omega, by go_num, rfl, HB5.out.setCell (by simp only; omega) _, by simpa [World.setCell] using z5, by simpa using O5.set_ 1 (.slice A5 (m + 1) c5), ?_⟩, by simp [intOf]; omega⟩
                  show _ ∨ _
                  rcases HNEXT.out with ⟨h6, h7, h8⟩ | h6
                  · refine .inl ⟨h6, ts ++ [(d9, L)], hP.out.far (by simp only; omega) _, h7, h8, HZ.out, ?_⟩
                    rw [totT_snoc]
                    have h1 := HST.out
                    have h2 := HTOT.out
                    have h3 := HSZ.out
                    omega
                  · exact .inr h6
              · have t2 : ¬ a9.toList = [116, 101, 109, 112, 108, 97, 116, 101] := lst_no ha9
                have t2b : (a9.toList == [116, 101, 109, 112, 108, 97, 116, 101]) = false := by simpa using t2
                have HNO := Lib.hid (rsO_lineK HSP.out HXX.out (fun d p r L h => by rw [hws] at h; cases h; exact absurd rfl ha9))
                clear hws hc9 HT3 HST HTK HLS HTOT HG u1 hq
                have RR := R2.belowB HB3.out (by have := R2.lt; omega)
                have HBW := Lib.hid (below_app HBW2.out HB3.out hzw2)
                have hzw := HBW.out.size
                have r0 := RR.cell 0
                have r1 := RR.cell 1
                simp only [List.getElem?_toArray, List.getElem?_cons_succ, List.getElem?_cons_zero] at r0 r1
                have f0 := RR.frozen 0
                have f1 := RR.frozen 1
                have zr := RR.lt
                go_wp2
                exact bodyPost_ret (v := .tuple #[.agg #[.int .i64 0, .slice none 0 0], .bool false]) (by simp [results, Tryz.results10, go_sem, r0, r1]) rfl ⟨0, none, 0, 0, [], false, rfl, .inr ⟨rfl, HNO.out⟩, (HBW.out.setCell (by simp only; omega) _).setCell (by simp only; omega) _⟩
          · have hkn : k + 1 = n := by omega
            rw [hkn, List.take_of_length_le (by rw [HLN.out]; exact Nat.le_refl _)] at HLS HTOT
            have HTOT2 : Hid (totT ts ≤ 1048576) := by show _ ≤ _; have := HSUM.out.1; have := HTOT.out; omega
            have R1 := R2.belowB hb (by have := R2.lt; omega)
            have HBW := Lib.hid (below_app HBW2.out hb hzw2)
            have hzw := HBW.out.size
            have HTL := Lib.hid (HT.out.on (Below.refl _ _).drew).tl
            have HT2 := Lib.hid (HT.out.on (Below.refl _ _).drew)
            obtain ⟨sv, hsv⟩ : ∃ sv, storeB z ts = sv := ⟨_, rfl⟩
            have HSV := Lib.hid hsv
            clear hsv
            have Od := O1.drew
            have Rd := R1.drew
            clear hb HTOT
            have o0 := O1.cell 0
            have o1 := O1.cell 1
            simp only [List.getElem?_toArray, List.getElem?_cons_succ, List.getElem?_cons_zero] at o0 o1
            have r0 := R1.cell 0
            have r1 := R1.cell 1
            simp only [List.getElem?_toArray, List.getElem?_cons_succ, List.getElem?_cons_zero] at r0 r1
            have f0 := R1.frozen 0
            have f1 := R1.frozen 1
            have zo := O1.lt
            have zr := R1.lt
            go_wp2_with fail
            go_region_law (go_simp; go_at_call 22; with_reducible refine (l11Ok_ptr z _ _ _ ts _ _ (Blk.at2 Od).1 (Blk.at2 Od).2 HTL.out HTOT2.out).mono ?_; rintro e w5 ⟨rfl, hb5⟩; obtain ⟨j0, j1, g0, g1, zj⟩ := (Od.on hb5).two; obtain ⟨l0, l1, m0, m1, zl⟩ := (Rd.on hb5).two)
            all_goals
              have HB5 := Lib.hid (below_on hb5 HBW.out.drew)
              have hz5 := HB5.out.size
              have HT5 := Lib.hid (HT2.out.on hb5)
              clear hb5
              go_wp2
              rw [HSV.out]
              refine bodyPost_ret (v := .tuple #[.agg #[.int .i64 z, .slice A' m c'], .bool sv]) (by simp [results, Tryz.results10, go_sem, r0, r1, l0, l1]) rfl ⟨z, A', m, c', hs9, sv, rfl, ?_, (HB5.out.setCell (by simp only; omega) _).setCell (by simp only; omega) _⟩
              cases sv with
              | true => exact .inl ⟨rfl, ts, rsO_of (isST_good HSP.out HLS.out HSV.out), ((HT5.out.far (by simp only; omega) _).far (by simp only; omega) _).mono (by omega)⟩
              | false => exact .inr ⟨rfl, rsO_bad HSP.out HLS.out HG.out HZ.out HSV.out⟩
    · have HNO := Lib.hid (rsO_line0 HSP.out HX0.out (fun d' h => by rw [hws] at h; cases h; exact absurd rfl ha))
      have t1 : ¬ a.toList = [115, 116, 111, 114, 101] := lst_no ha
      have t1b : (a.toList == [115, 116, 111, 114, 101]) = false := by simpa using t1
      clear hws hc9 u1
      have r0 := RR.cell 0
      have r1 := RR.cell 1
      simp only [List.getElem?_toArray, List.getElem?_cons_succ, List.getElem?_cons_zero] at r0 r1
      have f0 := RR.frozen 0
      have f1 := RR.frozen 1
      have zr := RR.lt
      go_wp2
      exact bodyPost_ret (v := .tuple #[.agg #[.int .i64 0, .slice none 0 0], .bool false]) (by simp [results, Tryz.results10, go_sem, r0, r1]) rfl ⟨0, none, 0, 0, [], false, rfl, .inr ⟨rfl, HNO.out⟩, (HBW.out.setCell (by simp only; omega) _).setCell (by simp only; omega) _⟩
  · have HNO := Lib.hid (rsO_line0 HSP.out HX0.out (fun d h => by rw [hws] at h; cases h))
    rw [hws] at hnw
    have k2 : ¬ (nw : Int) = 2 := by rw [← hnw]; simp; omega
    clear hws hc9
    have r0 := RR.cell 0
    have r1 := RR.cell 1
    simp only [List.getElem?_toArray, List.getElem?_cons_succ, List.getElem?_cons_zero] at r0 r1
    have f0 := RR.frozen 0
    have f1 := RR.frozen 1
    have zr := RR.lt
    go_wp2
    exact bodyPost_ret (v := .tuple #[.agg #[.int .i64 0, .slice none 0 0], .bool false]) (by simp [results, Tryz.results10, go_sem, r0, r1]) rfl ⟨0, none, 0, 0, [], false, rfl, .inr ⟨rfl, HNO.out⟩, (HBW.out.setCell (by simp only; omega) _).setCell (by simp only; omega) _⟩
set_option maxRecDepth 100000 in
set_option maxHeartbeats 8000000 in
theorem sReadStore_any (s : ByteArray) (w : World) (hs : s.size ≤ 1048576) :
    Calls Tryz.prog 4 #[.string s] w fun e w' => ∃ (A' : Option Addr) (n' c' : Nat) (hs' : List HT), e = .returned (.tuple #[.agg #[.int .i64 (rsZ s), .slice A' n' c'], .bool (rsB s)]) ∧ TS w' w.heap.size 42 60 A' n' c' hs' (rsL s) ∧ Below w.heap.size w w' := by
  obtain ⟨h1, h2⟩ := splS_len 10 s
  obtain ⟨n, hn⟩ : ∃ n, (splS 10 s).length = n := ⟨_, rfl⟩
  rw [hn] at h1 h2
  have HC := Lib.hid (fun w => l01Split_at 10 10 rfl s w hs)
  rw [hn] at HC
  obtain ⟨ls, x, hsp⟩ : ∃ ls x, splS 10 s = ls ++ [x] := by
    rcases List.eq_nil_or_concat (splS 10 s) with h | ⟨L, b, h⟩
    · exact absurd h (splS_ne 10 s)
    · exact ⟨L, b, by simpa using h⟩
  obtain ⟨m, hm⟩ : ∃ m, ls.length = m := ⟨_, rfl⟩
  have hnm : n = m + 1 := by rw [← hn, hsp, List.length_append, hm]; rfl
  have HN := Lib.hid hn
  have HSP := Lib.hid hsp
  have HM := Lib.hid hm
  clear hn hsp hm
  go_enter Tryz.func4, Tryz.ntmps4
  go_wp2_with fail
  have R0 := Blk.new (w) 24 #[.int .i64 0, .slice none 0 0]
  have hbv : Below (w).heap.size (w) ((w).alloc (.cells #[.int .i64 0, .slice none 0 0] 24)) := (Below.refl _ _).alloc (Nat.le_refl _) _
  generalize (w).alloc (.cells #[.int .i64 0, .slice none 0 0] 24) = v at *
  with_reducible refine (HC.out _).mono ?_
  rintro e w1 ⟨AW, cw, rfl, ow1, hb1⟩
  have HRW := Lib.hid (RdL.of_own (f := cs1) (s := 1) HN.out ow1)
  obtain ⟨b, off, rfl, hbl, hc9⟩ := wd_cells HRW.out (by omega)
  have RR := R0.on hb1
  have HBW := Lib.hid (below_on hb1 hbv)
  have hzw := HBW.out.size
  have hcap := HRW.out.cap
  have hcm := HRW.out.capm
  unfold maxLen at hcm
  clear R0 hbv hb1 ow1 HC
  by_cases hn2 : n < 2
  · have F := Lib.hid (rs_no (rsO_none (s := s) (fun z ts h => by
      have h3 := isST_split h
      rw [HSP.out] at h3
      have h4 := (app_last h3).1
      have h5 := HM.out
      rw [h4] at h5
      unfold linS at h5
      rw [List.length_cons] at h5
      omega)))
    have k1 : (n : Int) < 2 := by omega
    clear hc9
    have r0 := RR.cell 0
    have r1 := RR.cell 1
    simp only [List.getElem?_toArray, List.getElem?_cons_succ, List.getElem?_cons_zero] at r0 r1
    have f0 := RR.frozen 0
    have f1 := RR.frozen 1
    have zr := RR.lt
    go_wp2
    rw [F.out.1, F.out.2.1, F.out.2.2]
    exact bodyPost_ret (v := .tuple #[.agg #[.int .i64 0, .slice none 0 0], .bool false]) (by simp [results, Tryz.results4, go_sem, r0, r1]) rfl (by first | exact ⟨none, 0, 0, [], rfl, TS.nil _ _ _ _, (HBW.out.setCell (by simp only; omega) _).setCell (by simp only; omega) _⟩ | exact ⟨none, 0, 0, rfl, ⟨[], TS.nil _ _ _ _⟩, (HBW.out.setCell (by simp only; omega) _).setCell (by simp only; omega) _⟩)
  · have k1 : ¬ (n : Int) < 2 := by omega
    have o1 : IntKind.i64.wrap ((n : Int) - 1) = (m : Int) := by rw [show (n : Int) - 1 = (m : Int) by omega]; exact IntWalk.i64_in _ (by omega)
    have k2 : (m : Int) < (n : Int) := by omega
    have k3 : (0 : Int) ≤ (m : Int) := by omega
    have u0 : w1.cell? ⟨b, off + m, none⟩ = some (.string x) := hc9 m x (by rw [HSP.out, List.getElem?_append_right (by rw [HM.out]; exact Nat.le_refl _), HM.out, Nat.sub_self]; rfl)
    clear hc9
    by_cases hx : x = bNo
    · have t1 : x.toList = [] := lst_yes (l := []) hx
      have t2 : x.toList.isEmpty = true := by rw [t1]; rfl
      have HSP2 := HSP.out
      rw [hx] at HSP2
      have hRS : RdL cs1 1 w1 w1.heap.size (some ⟨b, off, none⟩) m cw ls := by
        have h9 := RdL.sub cs1_len HRW.out (a := 0) (k := m) (by omega)
        rw [List.drop_zero, HSP.out] at h9
        rw [List.take_append_of_le_length (by rw [HM.out]; exact Nat.le_refl _), List.take_of_length_le (by rw [HM.out]; exact Nat.le_refl _)] at h9
        simpa using h9
      have HD := Lib.hid (l11Read_any s ls _ m cw w1 HSP2 hRS (by omega) hs)
      have k4 : (m : Int) ≤ (cw : Int) := by omega
      clear hRS HSP2
      go_wp2_with fail
      with_reducible refine HD.out.mono ?_
      rintro e w2 ⟨z, A', m2, c2, hs2, bb, rfl, hcase, hb2⟩
      have RR2 := RR.on hb2
      have HBW2 := Lib.hid (below_on hb2 HBW.out)
      have hzw2 := HBW2.out.size
      have hz2 := hb2.size
      have hlt1 : w.heap.size < w1.heap.size := RR.lt
      clear hb2 RR HD
      have r0 := RR2.cell 0
      have r1 := RR2.cell 1
      simp only [List.getElem?_toArray, List.getElem?_cons_succ, List.getElem?_cons_zero] at r0 r1
      have f0 := RR2.frozen 0
      have f1 := RR2.frozen 1
      have zr := RR2.lt
      rcases hcase with ⟨rfl, ts, hrs, hT⟩ | ⟨rfl, hrs⟩
      · have F := Lib.hid (rs_yes hrs)
        have HT := Lib.hid hT
        clear hrs hT
        go_wp2
        rw [F.out.1, F.out.2.1, F.out.2.2]
        have hTS := (((HT.out.far (p := ⟨w.heap.size, 0, none⟩) (by simp only; omega) (.int .i64 z)).far (p := ⟨w.heap.size, 1, none⟩) (by simp only; omega) (.slice A' m2 c2)).mono (base' := w.heap.size) (by omega)).on ((Below.refl _ _).alloc (Nat.le_refl _) (.cells #[.int .i64 z, .slice A' m2 c2] 24))
        have hBB := (((HBW2.out.setCell (p := ⟨w.heap.size, 0, none⟩) (by simp only; omega) (.int .i64 z)).setCell (p := ⟨w.heap.size, 1, none⟩) (by simp only; omega) (.slice A' m2 c2)).alloc (by simpa using hzw2) (.cells #[.int .i64 z, .slice A' m2 c2] 24))
        exact bodyPost_ret (v := .tuple #[.agg #[.int .i64 z, .slice A' m2 c2], .bool true]) (by simp [results, Tryz.results4, go_sem, r0, r1, zr]) rfl (by exact ⟨A', m2, c2, hs2, rfl, hTS, hBB⟩)
      · have F := Lib.hid (rs_no hrs)
        clear hrs
        go_wp2
        rw [F.out.1, F.out.2.1, F.out.2.2]
        have hBB := (((HBW2.out.setCell (p := ⟨w.heap.size, 0, none⟩) (by simp only; omega) (.int .i64 0)).setCell (p := ⟨w.heap.size, 1, none⟩) (by simp only; omega) (.slice none 0 0)).alloc (by simpa using hzw2) (.cells #[.int .i64 z, .slice A' m2 c2] 24))
        exact bodyPost_ret (v := .tuple #[.agg #[.int .i64 0, .slice none 0 0], .bool false]) (by simp [results, Tryz.results4, go_sem, r0, r1, zr]) rfl (by exact ⟨none, 0, 0, [], rfl, TS.nil _ _ _ _, hBB⟩)
    · have F := Lib.hid (rs_no (rsO_none (s := s) (fun z ts h => by
        have h3 := isST_split h
        rw [HSP.out] at h3
        exact hx (app_last h3).2)))
      have t1 : ¬ x.toList = [] := lst_no (l := []) hx
      have t2 : x.toList.isEmpty = false := by
        cases hq : x.toList with
        | nil => exact absurd hq t1
        | cons a r => rfl
      have r0 := RR.cell 0
      have r1 := RR.cell 1
      simp only [List.getElem?_toArray, List.getElem?_cons_succ, List.getElem?_cons_zero] at r0 r1
      have f0 := RR.frozen 0
      have f1 := RR.frozen 1
      have zr := RR.lt
      go_wp2
      rw [F.out.1, F.out.2.1, F.out.2.2]
      exact bodyPost_ret (v := .tuple #[.agg #[.int .i64 0, .slice none 0 0], .bool false]) (by simp [results, Tryz.results4, go_sem, r0, r1]) rfl (by first | exact ⟨none, 0, 0, [], rfl, TS.nil _ _ _ _, (HBW.out.setCell (by simp only; omega) _).setCell (by simp only; omega) _⟩ | exact ⟨none, 0, 0, rfl, ⟨[], TS.nil _ _ _ _⟩, (HBW.out.setCell (by simp only; omega) _).setCell (by simp only; omega) _⟩)
end Go.Proofs.YtnjifhlabbejoaaGreatDoor
