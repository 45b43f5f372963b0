/- The vote: the reference's side. -/
import Derived.Test.YtkldejbhhbgefaaVd
import Derived.Test.YtkldejbhhbgefaaNe
import Derived.BigRegion
import Derived.Deep.RegionHeld3
namespace Go.Proofs.Ytkldejbhhbgefaa
open Go.ChangeShapes Go.WideShapes Go.ChangeAt Go.RowKit
set_option linter.unusedVariables false
set_option linter.unusedSimpArgs false
theorem lbV_step (vs : List V2) (p : V2) : lbV (vs ++ [p]) = insL (lbV vs) p.1 := by unfold lbV; rw [List.map_append, List.foldl_append]; rfl
theorem getD_some {α : Type} {l : List α} {k : Nat} {d y : α} (h : l.getD k d = y) (hk : k < l.length) : l[k]? = some y := by
  rw [List.getD_eq_getElem?_getD, List.getElem?_eq_getElem hk] at h
  rw [List.getElem?_eq_getElem hk, ← h]; rfl
def bsK (vs : List V2) (k : Nat) : V3 := ((lbV vs).take k).foldl (bsV vs) ([], 0, 0)
theorem bsK_step {vs : List V2} {k : Nat} {y : SL8} (h : (lbV vs)[k]? = some y) : bsK vs (k + 1) = bsV vs (bsK vs k) y := fold_step (f := bsV vs) h
theorem bsK_all {vs : List V2} {k : Nat} (h : (lbV vs).length = k) : (bsK vs k).1 = vtV vs := by unfold bsK vtV; rw [List.take_of_length_le (by omega)]
theorem bsV_yes {vs : List V2} {st : V3} {y : SL8} {cn sn : Int} (hc : cntV vs y = cn) (hs : smV vs y = sn) (h : st.2.1 < cn ∨ (cn = st.2.1 ∧ sn < st.2.2)) : bsV vs st y = (y, cn, sn) := by
  unfold bsV; rw [hc, hs, if_pos h]; unfold kV; rw [hc, hs]
theorem bsV_not {vs : List V2} {st : V3} {y : SL8} {cn sn : Int} (hc : cntV vs y = cn) (hs : smV vs y = sn) (h : ¬ (st.2.1 < cn ∨ (cn = st.2.1 ∧ sn < st.2.2))) : bsV vs st y = st := by
  unfold bsV; rw [hc, hs, if_neg h]
set_option maxRecDepth 100000 in
set_option maxHeartbeats 8000000 in
theorem l11Vote_ptr (z kk : Int) (A B : Option Addr) (n ca m cb : Nat) (ts : List TV) (xs : List T3) (w : World) (g0 : Nat) (K0 : Cel w g0 0 (.int .i64 z)) (K1 : Cel w g0 1 (.slice A m cb)) (hs : TL w w.heap.size A m cb ts) (hr : RdL c3 3 w w.heap.size B n ca xs) (hm : totT ts ≤ 1048576) (hn : n ≤ 1048576) (V0 : storeB z ts = true) (V1 : featsOk 72 xs = true) (k1 : 1 ≤ kk) (k2 : kk ≤ 40) :
    Calls Try.prog 37 #[.pointer (some ⟨g0, 0, none⟩), .slice B n ca, .int .i64 kk] w fun e w' => e = .returned (.string (b8 (vtV (vsV ts (nrS kk (mtS xs ts z m)))))) ∧ Below w.heap.size w w' := by
  have hl := Lib.hid hs.len
  have hm40 : m ≤ 40 := by have h := storeB_len V0; rw [hl.out] at h; exact h
  go_enter Try.func37, Try.ntmps37
  go_wp2_with fail
  with_reducible refine (l11Nearest_ptr z kk _ _ _ _ _ _ ts xs _ _ K0 K1 hs hr hm hn V0 V1 k1 k2).mono ?_
  rintro e w1 ⟨A', n', c', rfl, ow, lw, hb1⟩
  replace hs := hs.on hb1
  have KK := Lib.hid (K1.on hb1)
  obtain ⟨M, hM⟩ : ∃ M, nrS kk (mtS xs ts z m) = M := ⟨_, rfl⟩
  rw [hM] at ow lw
  have HMM := Lib.hid hM
  have hmem : Hid (∀ p ∈ M, ∃ i : Nat, p.1 = (i : Int) ∧ i < m) := by intro p hp; exact mtS_mem xs ts z m p (nrS_mem (hM ▸ hp))
  have hn40 : n' ≤ 40 := by have h1 := nrS_len kk (mtS xs ts z m); have h2 := mtS_len xs ts z m; rw [hM] at h1; omega
  have HR := Lib.hid (RdL.of_own lw ow)
  have HL := Lib.hid lw
  have HS := Lib.hid hs
  have HB := Lib.hid hb1
  have HM9 := Lib.hid hm
  clear ow lw hs hr hb1 hM V0 V1 K0 K1 hm
  go_wp2_with fail
  go_loopw [8, 9] (fun q i wr => ∃ (k n2 c2 g : Nat), i = .int .i64 k ∧ k ≤ n' ∧ q = .slice (some ⟨g, 0, none⟩) n2 c2 ∧ Below w1.heap.size w1 wr ∧ Hid (wr.ownsRow w1.heap.size 9 1 (.slice (some ⟨g, 0, none⟩) n2 c2) n2 (((lbV (vsV ts (M.take k))).map b8).flatMap cs1)) ∧ Hid ((lbV (vsV ts (M.take k))).length = n2) ∧ n2 ≤ k) (fun _ i _ => n' - (intOf i).toNat)
  case atStart => exact ⟨0, 0, 0, _, rfl, by omega, rfl, (by repeat (first | exact Below.refl _ _ | assumption | refine Below.drew ?_ | refine below_drewN ?_ _ | refine Below.alloc ?_ (by first | omega | (simp <;> omega)) _ | refine Below.setCell ?_ (by first | omega | (simp <;> omega)) _)), by unfold Hid; simpa [lbV, vsV] using World.ownsRow_lit (base := w1.heap.size) (e := 9) (size := 1) w1 #[] 0 (Nat.le_refl _) (by simp [maxLen]) rfl, rfl, by omega⟩
  case round =>
    obtain ⟨k, n2, c2, g, rfl, hk, rfl, hb, HO, hln, hnk⟩ := hrel
    have hsz := hb.size
    by_cases hlt : k < n'
    · obtain ⟨b, off, x0, y0, rfl, hbl, hx, q0, q1⟩ := (HR.out.on hb).at2 hlt
      obtain ⟨i, hi1, him⟩ := hmem.out _ (List.mem_of_getElem? hx.out)
      simp only at hi1
      subst hi1
      obtain ⟨b1, off1, s, B', m', cb', xT, rfl, hbl1, hxT, r0, r1, hx3⟩ := (HS.out.on hb).at_ him
      have K9 := KK.out.on hb
      have kc := K9.cell
      have kz := K9.lt
      have hss : s.size ≤ maxLen := by have h : s.size ≤ 1048576 := (totT_mem hxT.out HM9.out).1; unfold maxLen; omega
      have HT : Hid (lbV (vsV ts (M.take (k + 1))) = insL (lbV (vsV ts (M.take k))) s.data.toList) := by show _ = _; rw [vsV_step hx.out hxT.out, lbV_step]
      have i1 : (k : Int) < (n' : Int) := by omega
      have i2 : (0 : Int) ≤ (k : Int) := by omega
      have i3 : (i : Int) < (m : Int) := by omega
      have i4 : (0 : Int) ≤ (i : Int) := by omega
      have HQ := Lib.hid (RdL.of_own (f := cs1) (s := 1) (by rw [List.length_map]; exact hln.out) HO.out)
      clear hx3 r1 hx hxT K9 q1
      go_wp2_with fail
      go_region_held3 (fun w' => (∀ b o, b < wr.heap.size → w'.cell? ⟨b, o, none⟩ = wr.cell? ⟨b, o, none⟩) ∧ Below wr.heap.size wr w') (first | exact sk (Below.refl _ _).drew | (go_split_ands; exact sk (below_app ‹_› hbw3 (Below.size ‹_›)))) (first | (go_at_call 64; with_reducible refine (l11Insert_any g n2 c2 (lbV (vsV ts (M.take k))) s _ (HQ.out.on ((Below.refl _ _).drew)) (by omega) hss).mono ?_; rintro e w3 ⟨g2, n3, c3', rfl, hlen, hn3, hcase, hbw3⟩))
      have B3 : Below wr.heap.size wr w3 := ((Below.refl _ _).drew).trans hbw3
      have HO3 : Hid (w3.ownsRow w1.heap.size 9 1 (.slice (some ⟨g2, 0, none⟩) n3 c3') n3 (((lbV (vsV ts (M.take (k + 1)))).map b8).flatMap cs1)) := by
        unfold Hid
        rw [HT.out]
        rcases hcase with ⟨rfl, rfl, rfl, he⟩ | ho
        · rw [he]; exact own_below HO.out B3
        · exact own_mono ho hsz
      have hb3 := Lib.hid (below_app hb B3 hsz)
      have HLN : Hid ((lbV (vsV ts (M.take (k + 1)))).length = n3) := by show _ = _; rw [HT.out]; exact hlen
      clear hcase HO HQ B3 hbw3 hb hlen
      go_wp2_with fail
      exact ⟨⟨k + 1, n3, c3', g2, by go_num, by omega, rfl, hb3.out, HO3.out, HLN.out, by omega⟩, by simp [intOf]; omega⟩
    · have hkn : k = n' := by omega
      subst hkn
      have htk : M.take k = M := List.take_of_length_le (by rw [HL.out]; exact Nat.le_refl _)
      rw [htk] at HO hln
      obtain ⟨vs, hvs⟩ : ∃ vs, vsV ts M = vs := ⟨_, rfl⟩
      rw [hvs] at HO hln
      have HVS := Lib.hid hvs
      have HLB := Lib.hid (RdL.of_own (f := cs1) (s := 1) (by rw [List.length_map]; exact hln.out) HO.out)
      have HRr := Lib.hid (HR.out.on hb)
      have HSr := Lib.hid (HS.out.on hb)
      have KKr := Lib.hid (KK.out.on hb)
      have HBr := Lib.hid (below_app HB.out hb HB.out.size)
      have hvl : Hid (vs.length ≤ 40) := by show _ ≤ _; rw [← hvs]; unfold vsV; rw [List.length_map, HL.out]; exact hn40
      clear HO htk hvs HR HS KK hb
      obtain ⟨wa, rfl⟩ : ∃ W, W = wr := ⟨_, rfl⟩
      go_wp2_with fail
      go_loopw [10, 11, 12, 13] (fun p1 p2 p3 i wq => ∃ (j : Nat) (st : V3), i = .int .i64 j ∧ j ≤ n2 ∧ p1 = .string (b8 st.1) ∧ p2 = .int .i64 st.2.1 ∧ p3 = .int .i64 st.2.2 ∧ Hid (bsK vs j = st) ∧ Below wa.heap.size wa wq) (fun _ _ _ i _ => n2 - (intOf i).toNat)
      case atStart => exact ⟨0, ([], 0, 0), rfl, by omega, rfl, rfl, rfl, rfl, Below.refl _ _⟩
      case round =>
        obtain ⟨j, ⟨s0, c0, m0⟩, rfl, hj, rfl, rfl, rfl, hst, hbq⟩ := hrel
        simp only
        by_cases hlj : j < n2
        · obtain ⟨bl, ofl, lab, hle, hbll, hlab, p0⟩ := (HLB.out.on hbq).atB hlj
          cases hle
          have HLab := Lib.hid (getD_some hlab.out (by rw [hln.out]; exact hlj))
          have i1 : (j : Int) < (n2 : Int) := by omega
          have i2 : (0 : Int) ≤ (j : Int) := by omega
          clear hlab p0
          go_wp2_with fail
          obtain ⟨wb, rfl⟩ : ∃ W, W = wr := ⟨_, rfl⟩
          have HBq := Lib.hid hbq
          have hzq := hbq.size
          clear hbq
          go_loopw [14, 15, 16] (fun p1 p2 i wq => ∃ (x : Nat) (cn sn : Int), i = .int .i64 x ∧ x ≤ k ∧ p1 = .int .i64 cn ∧ p2 = .int .i64 sn ∧ Hid (cntV (vsV ts (M.take x)) lab = cn) ∧ Hid (smV (vsV ts (M.take x)) lab = sn) ∧ Below wb.heap.size wb wq) (fun _ _ i _ => k - (intOf i).toNat)
          case atStart => exact ⟨0, 0, 0, rfl, by omega, rfl, rfl, rfl, rfl, Below.refl _ _⟩
          case round =>
            obtain ⟨x, cn, sn, rfl, hxk, rfl, rfl, hcn, hsn, hbx⟩ := hrel
            have hba := below_app HBq.out hbx hzq
            by_cases hlx : x < k
            · obtain ⟨b, off, x0, y0, rfl, hbl, hx, q0, q1⟩ := (HRr.out.on hba).at2 hlx
              obtain ⟨i, hi1, him⟩ := hmem.out _ (List.mem_of_getElem? hx.out)
              simp only at hi1
              subst hi1
              obtain ⟨b1, off1, s, B', m', cb', xT, rfl, hbl1, hxT, r0, r1, hx3⟩ := (HSr.out.on hba).at_ him
              obtain ⟨bl, ofl, lab2, hle, hbll, hlab, p0⟩ := (HLB.out.on hba).atB hlj
              cases hle
              have hlab2 : lab2 = lab := by have h := getD_some hlab.out (by rw [hln.out]; exact hlj); rw [HLab.out] at h; cases h; rfl
              subst hlab2
              rw [Nat.zero_add] at p0
              have K9 := KKr.out.on hba
              have kc := K9.cell
              have kz := K9.lt
              have hvst := vsV_step hx.out hxT.out
              have r2 : wr.cell? ⟨b1, off1 + i * 2, none⟩ = some (.string (b8 s.data.toList)) := by rw [b8_back]; exact r0
              obtain ⟨sl, hsl⟩ : ∃ sl, s.data.toList = sl := ⟨_, rfl⟩
              rw [hsl] at hvst r2
              have HC : Hid (cntV (vsV ts (M.take (x + 1))) lab2 = if sl = lab2 then cn + 1 else cn) := by show _ = _; rw [hvst, cntV_step, hcn.out]
              have HM : Hid (smV (vsV ts (M.take (x + 1))) lab2 = if sl = lab2 then IntKind.i64.wrap (sn + y0) else sn) := by show _ = _; rw [hvst, smV_step, hsn.out]
              have hbd := cntV_bd (vsV ts (M.take x)) lab2
              have hlv : (vsV ts (M.take x)).length ≤ 40 := by unfold vsV; rw [List.length_map, List.length_take]; omega
              rw [hcn.out] at hbd
              have o1 : IntKind.i64.wrap (cn + 1) = cn + 1 := by rw [IntWalk.i64_in _ (by omega)]
              have i1 : (x : Int) < (k : Int) := by omega
              have i2 : (0 : Int) ≤ (x : Int) := by omega
              have i3 : (i : Int) < (m : Int) := by omega
              have i4 : (0 : Int) ≤ (i : Int) := by omega
              have i5 : (j : Int) < (n2 : Int) := by omega
              have i6 : (0 : Int) ≤ (j : Int) := by omega
              have HBX := Lib.hid hbx
              clear hx3 r1 r0 hx hxT K9 hvst hsl hcn hsn hba hlab hbx hbd hlv
              by_cases heq : sl = lab2
              · have c1 := s8_eq heq
                rw [if_pos heq] at HC HM
                obtain ⟨sy, hsy⟩ : ∃ sy, IntKind.i64.wrap (sn + y0) = sy := ⟨_, rfl⟩
                rw [hsy] at HM
                clear heq
                go_wp2_with fail
                go_region
                go_wp2
                exact ⟨⟨x + 1, cn + 1, sy, by go_num, by omega, rfl, rfl, HC.out, HM.out, HBX.out.drew⟩, by simp [intOf]; omega⟩
              · have c1 := s8_ne heq
                rw [if_neg heq] at HC HM
                clear heq o1
                go_wp2_with fail
                go_region
                go_wp2
                exact ⟨⟨x + 1, cn, sn, by go_num, by omega, rfl, rfl, HC.out, HM.out, HBX.out.drew⟩, by simp [intOf]; omega⟩
            · have hxk2 : x = k := by omega
              subst hxk2
              have htk : M.take x = M := List.take_of_length_le (by rw [HL.out]; exact Nat.le_refl _)
              rw [htk, HVS.out] at hcn hsn
              obtain ⟨bl, ofl, lab2, hle, hbll, hlab, p0⟩ := (HLB.out.on hba).atB hlj
              cases hle
              have hlab2 : lab2 = lab := by have h := getD_some hlab.out (by rw [hln.out]; exact hlj); rw [HLab.out] at h; cases h; rfl
              subst hlab2
              rw [Nat.zero_add] at p0
              have hSt := bsK_step HLab.out
              rw [hst.out] at hSt
              have i5 : (j : Int) < (n2 : Int) := by omega
              have i6 : (0 : Int) ≤ (j : Int) := by omega
              have HBX := Lib.hid hba
              clear htk hlab hba hbx hst
              by_cases h1 : c0 < cn
              · have HE : Hid (bsK vs (j + 1) = (lab2, cn, sn)) := by show _ = _; rw [hSt, bsV_yes hcn.out hsn.out (.inl h1)]
                clear hSt
                go_wp2
                exact ⟨⟨j + 1, (lab2, cn, sn), by go_num, by omega, rfl, rfl, rfl, HE.out, HBX.out⟩, by simp [intOf]; omega⟩
              · by_cases h2 : cn = c0
                · by_cases h3 : sn < m0
                  · have HE : Hid (bsK vs (j + 1) = (lab2, cn, sn)) := by show _ = _; rw [hSt, bsV_yes hcn.out hsn.out (.inr ⟨h2, h3⟩)]
                    subst h2
                    clear hSt
                    go_wp2
                    exact ⟨⟨j + 1, (lab2, cn, sn), by go_num, by omega, rfl, rfl, rfl, HE.out, HBX.out⟩, by simp [intOf]; omega⟩
                  · have HE : Hid (bsK vs (j + 1) = (s0, c0, m0)) := by show _ = _; rw [hSt, bsV_not hcn.out hsn.out (by rintro (h | ⟨_, h⟩); exact h1 h; exact h3 h)]
                    subst h2
                    clear hSt
                    go_wp2
                    exact ⟨⟨j + 1, (s0, cn, m0), by go_num, by omega, rfl, rfl, rfl, HE.out, HBX.out⟩, by simp [intOf]; omega⟩
                · have HE : Hid (bsK vs (j + 1) = (s0, c0, m0)) := by show _ = _; rw [hSt, bsV_not hcn.out hsn.out (by rintro (h | ⟨h, _⟩); exact h1 h; exact h2 h)]
                  clear hSt
                  go_wp2
                  exact ⟨⟨j + 1, (s0, c0, m0), by go_num, by omega, rfl, rfl, rfl, HE.out, HBX.out⟩, by simp [intOf]; omega⟩
        · have hjn : j = n2 := by omega
          subst hjn
          have HF := Lib.hid (bsK_all hln.out)
          have HS0 : Hid (s0 = vtV vs) := by show _ = _; rw [← HF.out, hst.out]
          have HBq := Lib.hid (below_app HBr.out hbq HBr.out.size)
          clear hbq hst
          go_wp2
          go_ret
          rw [HMM.out, HVS.out, ← HS0.out]
          exact ⟨rfl, HBq.out⟩
end Go.Proofs.Ytkldejbhhbgefaa
