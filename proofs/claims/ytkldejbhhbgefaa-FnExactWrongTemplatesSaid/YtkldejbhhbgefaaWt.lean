/- WrongTemplates: plain words, the program's and the reference's. -/
import Derived.Test.YtkldejbhhbgefaaVf
import Derived.Test.YtkldejbhhbgefaaRv
import Derived.Test.YtkldejbhhbgefaaFlInt
namespace Go.Proofs.Ytkldejbhhbgefaa
open Go.ChangeShapes Go.WideShapes Go.ChangeAt Go.RowKit
set_option linter.unusedVariables false
set_option linter.unusedSimpArgs false
def wrV (z : Int) (ts : List TV) (kk : Int) (i : Nat) : SL8 := voT z (ts.eraseIdx i) (ts.getD i (⟨#[]⟩, [])).2 kk
def wtK (z : Int) (ts : List TV) (kk : Int) : Nat → List Int
  | 0 => []
  | k + 1 => if wrV z ts kk k = (ts.getD k (⟨#[]⟩, [])).1.data.toList then wtK z ts kk k else wtK z ts kk k ++ [(k : Int)]
theorem wt_same {z : Int} {ts : List TV} {kk : Int} {k : Nat} {s : ByteArray} {x : List T3} {V : SL8} (hx : ts[k]? = some (s, x)) (hV : voT z (ts.eraseIdx k) x kk = V) (h : V = s.data.toList) : wtK z ts kk (k + 1) = wtK z ts kk k := by
  rw [wtK, if_pos]; unfold wrV; rw [getD_of hx]; exact hV.trans h
theorem wt_diff {z : Int} {ts : List TV} {kk : Int} {k : Nat} {s : ByteArray} {x : List T3} {V : SL8} (hx : ts[k]? = some (s, x)) (hV : voT z (ts.eraseIdx k) x kk = V) (h : ¬ V = s.data.toList) : wtK z ts kk (k + 1) = wtK z ts kk k ++ [(k : Int)] := by
  rw [wtK, if_neg]; unfold wrV; rw [getD_of hx]; exact fun e => h (hV.symm.trans e)
theorem wtK_len (z : Int) (ts : List TV) (kk : Int) : ∀ k, (wtK z ts kk k).length ≤ k
  | 0 => by simp [wtK]
  | k + 1 => by
    have h := wtK_len z ts kk k
    rw [wtK]; split
    · omega
    · rw [List.length_append, List.length_singleton]; omega
theorem storeB_erase {z : Int} {ts : List TV} (h : storeB z ts = true) (i : Nat) : storeB z (ts.eraseIdx i) = true := by
  unfold storeB at *
  simp only [Bool.and_eq_true, decide_eq_true_eq, List.all_eq_true] at *
  refine ⟨fun x hx => h.1 x (List.mem_of_mem_eraseIdx hx), h.2.1, ?_⟩
  have := List.length_eraseIdx_le ts i
  omega
def wtE (z : Int) (ts : List TV) (kk : Int) : Int := if storeB z ts = true then (if inB 1 40 kk = true then 0 else 2) else 1
def wtL (z : Int) (ts : List TV) (kk : Int) : List Int := if storeB z ts = true then (if inB 1 40 kk = true then wtK z ts kk ts.length else []) else []
theorem wt_bad {z : Int} {ts : List TV} {kk : Int} (h : storeB z ts = false) : wtE z ts kk = 1 ∧ wtL z ts kk = [] := by unfold wtE wtL; rw [h]; exact ⟨rfl, rfl⟩
theorem wt_bad2 {z : Int} {ts : List TV} {kk : Int} (h : storeB z ts = true) (h2 : inB 1 40 kk = false) : wtE z ts kk = 2 ∧ wtL z ts kk = [] := by unfold wtE wtL; rw [h, h2]; exact ⟨rfl, rfl⟩
theorem wt_ok {z : Int} {ts : List TV} {kk : Int} (h : storeB z ts = true) (h2 : inB 1 40 kk = true) : wtE z ts kk = 0 ∧ wtL z ts kk = wtK z ts kk ts.length := by unfold wtE wtL; rw [h, h2]; exact ⟨rfl, rfl⟩
set_option maxRecDepth 100000 in
set_option maxHeartbeats 8000000 in
theorem iWrong_any (z kk : Int) (A : Option Addr) (m cb : Nat) (ts : List TV) (w : World) (hs : TL w w.heap.size A m cb ts) (hm : totT ts ≤ 1048576) :
    Calls Try.prog 10 #[.agg #[.int .i64 z, .slice A m cb], .int .i64 kk] w fun e w' => ∃ A' n' c', e = .returned (.tuple #[.slice A' n' c', .int .i64 (wtE z ts kk)]) ∧ w'.ownsRow w.heap.size 2 1 (.slice A' n' c') n' ((wtL z ts kk).flatMap c1) ∧
      (wtL z ts kk).length = n' ∧ n' ≤ 1048576 ∧ Below w.heap.size w w' := by
  obtain ⟨i0, hi, hz0, hz1, hz2⟩ := info_parts Try.infoInt64
  have hl := Lib.hid hs.len
  have HM := Lib.hid hm
  clear hm
  cases h0 : storeB z ts with
  | false =>
    have F := Lib.hid (wt_bad (kk := kk) h0)
    have H0 := Lib.hid h0
    clear h0
    go_enter Try.func10, Try.ntmps10
    go_wp2_with fail
    have K0 := Blk.new (w) 31 #[.int .i64 z, .slice A m cb]
    have hbv : Below (w).heap.size (w) ((w).alloc (.cells #[.int .i64 z, .slice A m cb] 31)) := (Below.refl _ _).alloc (Nat.le_refl _) _
    replace hs := hs.on hbv
    generalize (w).alloc (.cells #[.int .i64 z, .slice A m cb] 31) = v at *
    with_reducible refine (iValidStore_any z _ _ _ ts _ hs HM.out).mono ?_
    rintro e w1 ⟨rfl, hb1⟩
    rw [H0.out]
    clear hs
    go_wp2
    go_ret2
    rw [F.out.1, F.out.2]
    exact ⟨none, 0, 0, rfl, World.ownsRow_nil _ _ _ _, rfl, by decide, below_on hb1 hbv⟩
  | true =>
    have hm40 : m ≤ 40 := by have h := storeB_len h0; rw [hl.out] at h; exact h
    cases h2 : inB 1 40 kk with
    | false =>
      have F := Lib.hid (wt_bad2 h0 h2)
      have H0 := Lib.hid h0
      have H2 := Lib.hid h2
      clear h0 h2
      go_enter Try.func10, Try.ntmps10
      go_wp2_with fail
      have K0 := Blk.new (w) 31 #[.int .i64 z, .slice A m cb]
      have hbv : Below (w).heap.size (w) ((w).alloc (.cells #[.int .i64 z, .slice A m cb] 31)) := (Below.refl _ _).alloc (Nat.le_refl _) _
      replace hs := hs.on hbv
      generalize (w).alloc (.cells #[.int .i64 z, .slice A m cb] 31) = v at *
      with_reducible refine (iValidStore_any z _ _ _ ts _ hs HM.out).mono ?_
      rintro e w1 ⟨rfl, hb1⟩
      rw [H0.out]
      replace hbv := below_on hb1 hbv
      go_wp2_with fail
      with_reducible refine (within_any _ _ _ _).mono ?_
      rintro e w' ⟨rfl, rfl⟩
      rw [H2.out]
      clear hs
      go_wp2
      go_ret2
      rw [F.out.1, F.out.2]
      exact ⟨none, 0, 0, rfl, World.ownsRow_nil _ _ _ _, rfl, by decide, hbv⟩
    | true =>
      have F := Lib.hid (wt_ok h0 h2)
      have H0 := Lib.hid h0
      have H2 := Lib.hid h2
      obtain ⟨hk1, hk2⟩ := inB_iff.1 h2
      clear h0 h2
      go_enter Try.func10, Try.ntmps10
      go_wp2_with fail
      have K0 := Blk.new (w) 31 #[.int .i64 z, .slice A m cb]
      have hbv : Below (w).heap.size (w) ((w).alloc (.cells #[.int .i64 z, .slice A m cb] 31)) := (Below.refl _ _).alloc (Nat.le_refl _) _
      replace hs := hs.on hbv
      generalize (w).alloc (.cells #[.int .i64 z, .slice A m cb] 31) = v at *
      with_reducible refine (iValidStore_any z _ _ _ ts _ hs HM.out).mono ?_
      rintro e w1 ⟨rfl, hb1⟩
      rw [H0.out]
      replace hs := hs.on hb1
      replace K0 := K0.on hb1
      replace hbv := below_on hb1 hbv
      go_wp2_with fail
      with_reducible refine (within_any _ _ _ _).mono ?_
      rintro e w' ⟨rfl, rfl⟩
      rw [H2.out]
      have hzz := hbv.size
      have HS := Lib.hid hs
      have KK := Lib.hid K0
      have HB := Lib.hid hbv
      have e0 := K0.cell 0
      have e1 := K0.cell 1
      simp only [List.getElem?_toArray, List.getElem?_cons_succ, List.getElem?_cons_zero] at e0 e1
      have z1 := K0.lt
      clear hs K0 hbv
      go_wp2_with fail
      clear e0 e1 z1
      obtain ⟨wv, rfl⟩ : ∃ W, W = w1 := ⟨_, rfl⟩
      go_loopw [6, 18] (fun q i wr => ∃ (k n2 c2 : Nat) (A2 : Option Addr), i = .int .i64 k ∧ k ≤ m ∧ q = .slice A2 n2 c2 ∧ Below wv.heap.size wv wr ∧ Hid (wr.ownsRow wv.heap.size 2 1 (.slice A2 n2 c2) n2 ((wtK z ts kk k).flatMap c1)) ∧ Hid ((wtK z ts kk k).length = n2) ∧ n2 ≤ k) (fun _ i _ => m - (intOf i).toNat)
      case atStart => exact ⟨0, 0, 0, none, rfl, by omega, rfl, Below.refl _ _, World.ownsRow_nil _ _ _ _, rfl, by omega⟩
      case round =>
        obtain ⟨k, n2, c2, A2, rfl, hk, rfl, hb, HO, hln, hnk⟩ := hrel
        have hsz := hb.size
        by_cases hlt : k < m
        · obtain ⟨b1, off1, s, B', m', cb', xT, rfl, hbl1, hxT, r0, r1, hx3⟩ := (HS.out.on hb).at_ hlt
          obtain ⟨sl, rfl⟩ : ∃ sl, s = b8 sl := ⟨s.data.toList, (b8_back s).symm⟩
          have HX3 := Lib.hid hx3
          have HSr := Lib.hid (HS.out.on hb)
          have KKr := Lib.hid (KK.out.on hb)
          have hsa := storeB_at H0.out hxT.out
          have hm' : m' ≤ 1048576 := by have h := (totT_mem hxT.out HM.out).2; have h2 := hx3.len; simp only at h; omega
          have i1 : (k : Int) < (m : Int) := by omega
          have i2 : (0 : Int) ≤ (k : Int) := by omega
          have HF := Lib.hid hsa.2
          clear hx3 hsa
          go_wp2_with fail
          have KT := Blk.new (wr) 67 #[.string (b8 sl), .slice B' m' cb']
          have hbu : Below (wr).heap.size (wr) ((wr).alloc (.cells #[.string (b8 sl), .slice B' m' cb'] 67)) := (Below.refl _ _).alloc (Nat.le_refl _) _
          generalize (wr).alloc (.cells #[.string (b8 sl), .slice B' m' cb'] 67) = u at *
          have HSu := Lib.hid (HSr.out.on hbu)
          have HXu := Lib.hid (HX3.out.on hbu)
          have HTu := Lib.hid KT
          have KKu := KKr.out.on hbu
          have HOu := Lib.hid (own_below HO.out hbu)
          have hbu2 := Lib.hid (below_app hb hbu hsz)
          obtain ⟨V, hV⟩ : ∃ V, voT z (ts.eraseIdx k) xT kk = V := ⟨_, rfl⟩
          have HVV : Hid (vtV (vsV (ts.eraseIdx k) (nrS kk (mtS xT (ts.eraseIdx k) z (m - 1)))) = V) := by
            show _ = _
            rw [← hV]; unfold voT; rw [List.length_eraseIdx, if_pos (by rw [hl.out]; exact hlt), hl.out]
          have t0 := KT.cell 0
          have t1 := KT.cell 1
          simp only [List.getElem?_toArray, List.getElem?_cons_succ, List.getElem?_cons_zero] at t0 t1
          have e0 := KKu.cell 0
          have e1 := KKu.cell 1
          simp only [List.getElem?_toArray, List.getElem?_cons_succ, List.getElem?_cons_zero] at e0 e1
          have zt := KT.lt
          have ze := KKu.lt
          clear r0 r1 HSr HX3 KKr HO hb hbu KT KKu
          by_cases hvs : V = sl
          · have c1 := s8_eq hvs
            have HW : Hid (wtK z ts kk (k + 1) = wtK z ts kk k) := wt_same hxT.out hV (by rw [hvs]; simp [b8])
            clear hvs hV
            go_wp2_with fail
            go_region_held3 (fun w' => (∀ b o, b < u.heap.size → w'.cell? ⟨b, o, none⟩ = u.cell? ⟨b, o, none⟩) ∧ Below u.heap.size u w') (first | exact sk (Below.refl _ _).drew | (go_split_ands; first | exact sk (below_app ‹_› hbw3 (Below.size ‹_›)) | exact sk (below_app ‹_› hbw4 (Below.size ‹_›)))) (first | (go_at_call 42; with_reducible refine (without_any z _ m _ k ts _ (HSu.out.on ((Below.refl _ _).drew)) HM.out H0.out hlt).mono ?_; rintro e w3 ⟨A3, q3, hs3, rfl, hT3, hbw3⟩) | (go_at_call 41; with_reducible refine (vote_any z kk _ _ _ _ _ _ (ts.eraseIdx k) xT _ (tl_own hT3.o hT3.l hT3.x hT3.u) ((HXu.out.on ((Below.refl _ _).drew)).on hbw3) (Nat.le_trans (tot_erase _ _) HM.out) hm' (storeB_erase H0.out k) HF.out hk1 hk2).mono ?_; rintro e w4 ⟨rfl, hbw4⟩; rw [HVV.out]))
            have B4 : Below u.heap.size u w4 := below_app ((Below.refl _ _).drew.trans hbw3) hbw4 (by have := hbw3.size; exact this)
            have HO4 := Lib.hid (own_below HOu.out B4)
            have HB4 := Lib.hid (below_app hbu2.out B4 hbu2.out.size)
            clear B4 hT3 hbw3 hbw4 HOu
            go_wp2_with fail
            exact ⟨⟨k + 1, n2, c2, A2, by go_num, by omega, rfl, HB4.out, by rw [HW.out]; exact HO4.out, by rw [HW.out]; exact hln.out, by omega⟩, by simp [intOf]; omega⟩
          · have c1 := s8_ne hvs
            have HW : Hid (wtK z ts kk (k + 1) = wtK z ts kk k ++ [(k : Int)]) := wt_diff hxT.out hV (by simpa [b8] using hvs)
            clear hvs hV
            go_wp2_with fail
            go_region_held3 (fun w' => (∀ b o, b < u.heap.size → w'.cell? ⟨b, o, none⟩ = u.cell? ⟨b, o, none⟩) ∧ Below u.heap.size u w') (first | exact sk (Below.refl _ _).drew | (go_split_ands; first | exact sk (below_app ‹_› hbw3 (Below.size ‹_›)) | exact sk (below_app ‹_› hbw4 (Below.size ‹_›)))) (first | (go_at_call 42; with_reducible refine (without_any z _ m _ k ts _ (HSu.out.on ((Below.refl _ _).drew)) HM.out H0.out hlt).mono ?_; rintro e w3 ⟨A3, q3, hs3, rfl, hT3, hbw3⟩) | (go_at_call 41; with_reducible refine (vote_any z kk _ _ _ _ _ _ (ts.eraseIdx k) xT _ (tl_own hT3.o hT3.l hT3.x hT3.u) ((HXu.out.on ((Below.refl _ _).drew)).on hbw3) (Nat.le_trans (tot_erase _ _) HM.out) hm' (storeB_erase H0.out k) HF.out hk1 hk2).mono ?_; rintro e w4 ⟨rfl, hbw4⟩; rw [HVV.out]))
            have B4 : Below u.heap.size u w4 := below_app ((Below.refl _ _).drew.trans hbw3) hbw4 (by have := hbw3.size; exact this)
            have HO4 := Lib.hid (own_below HOu.out B4)
            have HB4 := Lib.hid (below_app hbu2.out B4 hbu2.out.size)
            have z4 := HB4.out.size
            clear B4 hT3 hbw3 hbw4 HOu
            go_wp2_with (at_builtin; with_reducible refine app_one _ c1_len one1 rfl (.tmp 33) (.tmp 35) 26 rfl wv.heap.size 2 i0 _ Try.underlying26 hi hz0 hz1 hz2 rfl (by decide) (by decide) A2 n2 c2 _ rfl (HO4.out.alloc _) w4.heap.size 1 (k : Int) rfl ?_ (by omega) ?_ ?_)
            · exact news1 (Blk.cel (Blk.new _ _ _)).cell
            · simp; omega
            · intro A5 c5 w5 hw5 hbw5
              have HB5 := Lib.hid ((HB4.out.alloc z4 _).trans hbw5)
              have HO5 := Lib.hid hw5
              clear hbw5 hw5
              go_wp2
              exact ⟨⟨k + 1, n2 + 1, c5, A5, by go_num, by omega, rfl, HB5.out, by rw [HW.out, flat_snoc]; exact HO5.out, by rw [HW.out, List.length_append, hln.out]; rfl, by omega⟩, by simp [intOf]; omega⟩
        · have hkm : k = m := by omega
          subst hkm
          have HBx := Lib.hid (below_app HB.out hb HB.out.size)
          have HO5 := Lib.hid (own_mono HO.out hzz)
          clear hb
          go_wp2
          go_ret2
          rw [F.out.1, F.out.2, hl.out]
          exact ⟨A2, n2, c2, rfl, HO5.out, hln.out, by omega, HBx.out⟩
set_option maxRecDepth 100000 in
set_option maxHeartbeats 8000000 in
theorem sWrong_any (z kk : Int) (A : Option Addr) (m cb : Nat) (ts : List TV) (w : World) (hs : TL w w.heap.size A m cb ts) (hm : totT ts ≤ 1048576) :
    Calls Try.prog 8 #[.agg #[.int .i64 z, .slice A m cb], .int .i64 kk] w fun e w' => ∃ A' n' c', e = .returned (.tuple #[.slice A' n' c', .int .i64 (wtE z ts kk)]) ∧ w'.ownsRow w.heap.size 2 1 (.slice A' n' c') n' ((wtL z ts kk).flatMap c1) ∧
      (wtL z ts kk).length = n' ∧ n' ≤ 1048576 ∧ Below w.heap.size w w' := by
  obtain ⟨i0, hi, hz0, hz1, hz2⟩ := info_parts Try.infoInt64
  have hl := Lib.hid hs.len
  have HM := Lib.hid hm
  clear hm
  cases h0 : storeB z ts with
  | false =>
    have F := Lib.hid (wt_bad (kk := kk) h0)
    have H0 := Lib.hid h0
    clear h0
    go_enter Try.func8, Try.ntmps8
    go_wp2_with fail
    have K0 := Blk.new (w) 31 #[.int .i64 z, .slice A m cb]
    have hbv : Below (w).heap.size (w) ((w).alloc (.cells #[.int .i64 z, .slice A m cb] 31)) := (Below.refl _ _).alloc (Nat.le_refl _) _
    replace hs := hs.on hbv
    generalize (w).alloc (.cells #[.int .i64 z, .slice A m cb] 31) = v at *
    with_reducible refine (l11Ok_ptr z _ _ _ ts _ _ (Blk.at2 K0).1 (Blk.at2 K0).2 hs HM.out).mono ?_
    rintro e w1 ⟨rfl, hb1⟩
    rw [H0.out]
    clear hs
    go_wp2
    go_ret2
    rw [F.out.1, F.out.2]
    exact ⟨none, 0, 0, rfl, World.ownsRow_nil _ _ _ _, rfl, by decide, below_on hb1 hbv⟩
  | true =>
    have hm40 : m ≤ 40 := by have h := storeB_len h0; rw [hl.out] at h; exact h
    cases h2 : inB 1 40 kk with
    | false =>
      have F := Lib.hid (wt_bad2 h0 h2)
      have H0 := Lib.hid h0
      have H2 := Lib.hid h2
      clear h0 h2
      go_enter Try.func8, Try.ntmps8
      go_wp2_with fail
      have K0 := Blk.new (w) 31 #[.int .i64 z, .slice A m cb]
      have hbv : Below (w).heap.size (w) ((w).alloc (.cells #[.int .i64 z, .slice A m cb] 31)) := (Below.refl _ _).alloc (Nat.le_refl _) _
      replace hs := hs.on hbv
      generalize (w).alloc (.cells #[.int .i64 z, .slice A m cb] 31) = v at *
      with_reducible refine (l11Ok_ptr z _ _ _ ts _ _ (Blk.at2 K0).1 (Blk.at2 K0).2 hs HM.out).mono ?_
      rintro e w1 ⟨rfl, hb1⟩
      rw [H0.out]
      replace hbv := below_on hb1 hbv
      go_wp2_with fail
      with_reducible refine (l00In_any _ _ _ _).mono ?_
      rintro e w' ⟨rfl, rfl⟩
      rw [H2.out]
      clear hs
      go_wp2
      go_ret2
      rw [F.out.1, F.out.2]
      exact ⟨none, 0, 0, rfl, World.ownsRow_nil _ _ _ _, rfl, by decide, hbv⟩
    | true =>
      have F := Lib.hid (wt_ok h0 h2)
      have H0 := Lib.hid h0
      have H2 := Lib.hid h2
      obtain ⟨hk1, hk2⟩ := inB_iff.1 h2
      clear h0 h2
      go_enter Try.func8, Try.ntmps8
      go_wp2_with fail
      have K0 := Blk.new (w) 31 #[.int .i64 z, .slice A m cb]
      have hbv : Below (w).heap.size (w) ((w).alloc (.cells #[.int .i64 z, .slice A m cb] 31)) := (Below.refl _ _).alloc (Nat.le_refl _) _
      replace hs := hs.on hbv
      generalize (w).alloc (.cells #[.int .i64 z, .slice A m cb] 31) = v at *
      with_reducible refine (l11Ok_ptr z _ _ _ ts _ _ (Blk.at2 K0).1 (Blk.at2 K0).2 hs HM.out).mono ?_
      rintro e w1 ⟨rfl, hb1⟩
      rw [H0.out]
      replace hs := hs.on hb1
      replace K0 := K0.on hb1
      replace hbv := below_on hb1 hbv
      go_wp2_with fail
      with_reducible refine (l00In_any _ _ _ _).mono ?_
      rintro e w' ⟨rfl, rfl⟩
      rw [H2.out]
      have hzz := hbv.size
      have HS := Lib.hid hs
      have KK := Lib.hid K0
      have HB := Lib.hid hbv
      clear hs K0 hbv
      obtain ⟨wv, rfl⟩ : ∃ W, W = w1 := ⟨_, rfl⟩
      go_wp2_with fail
      go_loopw [6, 7] (fun q i wr => ∃ (k n2 c2 : Nat) (A2 : Option Addr), i = .int .i64 k ∧ k ≤ m ∧ q = .slice A2 n2 c2 ∧ Below wv.heap.size wv wr ∧ Hid (wr.ownsRow wv.heap.size 2 1 (.slice A2 n2 c2) n2 ((wtK z ts kk k).flatMap c1)) ∧ Hid ((wtK z ts kk k).length = n2) ∧ n2 ≤ k) (fun _ i _ => m - (intOf i).toNat)
      case atStart => exact ⟨0, 0, 0, _, rfl, by omega, rfl, (by repeat (first | exact Below.refl _ _ | assumption | refine Below.drew ?_ | refine below_drewN ?_ _ | refine Below.alloc ?_ (by first | omega | (simp <;> omega)) _ | refine Below.setCell ?_ (by first | omega | (simp <;> omega)) _)), by unfold Hid; simpa [wtK] using World.ownsRow_lit (base := wv.heap.size) (e := 2) (size := 1) wv #[] 0 (Nat.le_refl _) (by simp [maxLen]) rfl, rfl, by omega⟩
      case round =>
        obtain ⟨k, n2, c2, A2, rfl, hk, rfl, hb, HO, hln, hnk⟩ := hrel
        have hsz := hb.size
        have KKr := Lib.hid (KK.out.on hb)
        by_cases hlt : k < m
        · obtain ⟨b1, off1, s, B', m', cb', xT, rfl, hbl1, hxT, r0, r1, hx3⟩ := (HS.out.on hb).at_ hlt
          obtain ⟨sl, rfl⟩ : ∃ sl, s = b8 sl := ⟨s.data.toList, (b8_back s).symm⟩
          have HX3 := Lib.hid hx3
          have HSr := Lib.hid (HS.out.on hb)
          have K9 := KKr.out
          have e0 := K9.cell 0
          have e1 := K9.cell 1
          simp only [List.getElem?_toArray, List.getElem?_cons_succ, List.getElem?_cons_zero] at e0 e1
          have ze := K9.lt
          have hsa := storeB_at H0.out hxT.out
          have hm' : m' ≤ 1048576 := by have h := (totT_mem hxT.out HM.out).2; have h2 := hx3.len; simp only at h; omega
          have i1 : (k : Int) < (m : Int) := by omega
          have i2 : (0 : Int) ≤ (k : Int) := by omega
          have HF := Lib.hid hsa.2
          have hi64 : I64 (k : Int) := by unfold I64; omega
          have HLL : Hid (lessL ts (k : Int) m = ts.eraseIdx k) := by
            have h9 := lessL_at (ts := ts) (i := k) (by rw [hl.out]; exact hlt) m (by rw [hl.out]; exact Nat.le_refl _)
            rw [List.take_of_length_le (by rw [hl.out]; exact Nat.le_refl _)] at h9
            exact h9
          clear hx3 hsa
          go_wp2_with fail
          clear e0 e1 ze
          with_reducible refine (l11Own_ptr z k _ _ _ ts _ _ (Blk.at2 K9).1 (Blk.at2 K9).2 HSr.out HM.out H0.out hi64).mono ?_
          rintro e w3 ⟨A3, n3, q3, hs3, rfl, hT3, hbw3⟩
          rw [HLL.out] at hT3
          obtain rfl : n3 = m - 1 := by rw [← hT3.x, List.length_eraseIdx, if_pos (by rw [hl.out]; omega), hl.out]
          have HT3 := Lib.hid hT3
          have hx9 := Lib.hid (HX3.out.on hbw3)
          have t0 := (hbw3.cell (p := ⟨b1, off1 + k * 2, none⟩) hbl1).trans r0
          have t1 := (hbw3.cell (p := ⟨b1, off1 + k * 2 + 1, none⟩) hbl1).trans r1
          have hb13 : b1 < w3.heap.size := Nat.lt_of_lt_of_le hbl1 hbw3.size
          have K93 := K9.on hbw3
          have HO3 := Lib.hid (own_below HO.out hbw3)
          have hb3 := Lib.hid (below_app hb hbw3 hsz)
          clear r0 r1 hT3 HX3 HSr K9 KKr HO hb hbw3
          go_wp2_with fail
          have KT := Blk.new (w3) 31 #[.int .i64 z, .slice A3 (m - 1) q3]
          have hbu : Below (w3).heap.size (w3) ((w3).alloc (.cells #[.int .i64 z, .slice A3 (m - 1) q3] 31)) := (Below.refl _ _).alloc (Nat.le_refl _) _
          generalize (w3).alloc (.cells #[.int .i64 z, .slice A3 (m - 1) q3] 31) = u at *
          have HTu := Lib.hid (HT3.out.on hbu)
          have HXu := Lib.hid (hx9.out.on hbu)
          have KKu := K93.on hbu
          have HOu := Lib.hid (own_below HO3.out hbu)
          have hbu2 := Lib.hid (below_app hb3.out hbu hb3.out.size)
          have s0 : u.cell? ⟨b1, off1 + k * 2, none⟩ = some (.string (b8 sl)) := (hbu.cell (p := ⟨b1, off1 + k * 2, none⟩) hb13).trans t0
          have s1 : u.cell? ⟨b1, off1 + k * 2 + 1, none⟩ = some (.slice B' m' cb') := (hbu.cell (p := ⟨b1, off1 + k * 2 + 1, none⟩) hb13).trans t1
          have hb1u : b1 < u.heap.size := Nat.lt_of_lt_of_le hb13 hbu.size
          have KTh := Lib.hid KT
          obtain ⟨V, hV⟩ : ∃ V, voT z (ts.eraseIdx k) xT kk = V := ⟨_, rfl⟩
          have HVV : Hid (vtV (vsV (ts.eraseIdx k) (nrS kk (mtS xT (ts.eraseIdx k) z (m - 1)))) = V) := by
            show _ = _
            rw [← hV]; unfold voT; rw [List.length_eraseIdx, if_pos (by rw [hl.out]; exact hlt), hl.out]
          have e0 := KKu.cell 0
          have e1 := KKu.cell 1
          simp only [List.getElem?_toArray, List.getElem?_cons_succ, List.getElem?_cons_zero] at e0 e1
          have ze := KKu.lt
          clear t0 t1 HT3 hx9 K93 HO3 hb3 hbu KT KKu
          by_cases hvs : V = sl
          · have c1 := s8_eq hvs
            have HW : Hid (wtK z ts kk (k + 1) = wtK z ts kk k) := wt_same hxT.out hV (by rw [hvs]; simp [b8])
            clear hvs hV
            go_wp2_with fail
            go_region_held3 (fun w' => (∀ b o, b < u.heap.size → w'.cell? ⟨b, o, none⟩ = u.cell? ⟨b, o, none⟩) ∧ Below u.heap.size u w') (first | exact sk (Below.refl _ _).drew | (go_split_ands; exact sk (below_app ‹_› hbw4 (Below.size ‹_›)))) (first | (go_at_call 37; with_reducible refine (l11Vote_ptr z kk _ _ _ _ _ _ (ts.eraseIdx k) xT _ _ (Blk.at2 KTh.out).1.drew (Blk.at2 KTh.out).2.drew ((tl_own HTu.out.o HTu.out.l HTu.out.x HTu.out.u).on ((Below.refl _ _).drew)) (HXu.out.on ((Below.refl _ _).drew)) (Nat.le_trans (tot_erase _ _) HM.out) hm' (storeB_erase H0.out k) HF.out hk1 hk2).mono ?_; rintro e w4 ⟨rfl, hbw4⟩; rw [HVV.out]))
            have B4 : Below u.heap.size u w4 := (Below.refl _ _).drew.trans hbw4
            have HO4 := Lib.hid (own_below HOu.out B4)
            have HB4 := Lib.hid (below_app hbu2.out B4 hbu2.out.size)
            clear B4 hbw4 HOu
            go_wp2_with fail
            exact ⟨⟨k + 1, n2, c2, A2, by go_num, by omega, rfl, HB4.out, by rw [HW.out]; exact HO4.out, by rw [HW.out]; exact hln.out, by omega⟩, by simp [intOf]; omega⟩
          · have c1 := s8_ne hvs
            have HW : Hid (wtK z ts kk (k + 1) = wtK z ts kk k ++ [(k : Int)]) := wt_diff hxT.out hV (by simpa [b8] using hvs)
            clear hvs hV
            go_wp2_with fail
            go_region_held3 (fun w' => (∀ b o, b < u.heap.size → w'.cell? ⟨b, o, none⟩ = u.cell? ⟨b, o, none⟩) ∧ Below u.heap.size u w') (first | exact sk (Below.refl _ _).drew | (go_split_ands; exact sk (below_app ‹_› hbw4 (Below.size ‹_›)))) (first | (go_at_call 37; with_reducible refine (l11Vote_ptr z kk _ _ _ _ _ _ (ts.eraseIdx k) xT _ _ (Blk.at2 KTh.out).1.drew (Blk.at2 KTh.out).2.drew ((tl_own HTu.out.o HTu.out.l HTu.out.x HTu.out.u).on ((Below.refl _ _).drew)) (HXu.out.on ((Below.refl _ _).drew)) (Nat.le_trans (tot_erase _ _) HM.out) hm' (storeB_erase H0.out k) HF.out hk1 hk2).mono ?_; rintro e w4 ⟨rfl, hbw4⟩; rw [HVV.out]))
            have B4 : Below u.heap.size u w4 := (Below.refl _ _).drew.trans hbw4
            have HO4 := Lib.hid (own_below HOu.out B4)
            have HB4 := Lib.hid (below_app hbu2.out B4 hbu2.out.size)
            have z4 := HB4.out.size
            clear B4 hbw4 HOu
            go_wp2_with (at_builtin; with_reducible refine app_one _ c1_len one1 rfl (.tmp 39) (.tmp 41) 26 rfl wv.heap.size 2 i0 _ Try.underlying26 hi hz0 hz1 hz2 rfl (by decide) (by decide) A2 n2 c2 _ rfl (HO4.out.alloc _) w4.heap.size 1 (k : Int) rfl ?_ (by omega) ?_ ?_)
            · exact news1 (Blk.cel (Blk.new _ _ _)).cell
            · simp; omega
            · intro A5 c5 w5 hw5 hbw5
              have HB5 := Lib.hid ((HB4.out.alloc z4 _).trans hbw5)
              have HO5 := Lib.hid hw5
              clear hbw5 hw5
              go_wp2
              exact ⟨⟨k + 1, n2 + 1, c5, A5, by go_num, by omega, rfl, HB5.out, by rw [HW.out, flat_snoc]; exact HO5.out, by rw [HW.out, List.length_append, hln.out]; rfl, by omega⟩, by simp [intOf]; omega⟩
        · have hkm : k = m := by omega
          subst hkm
          have HBx := Lib.hid (below_app HB.out hb HB.out.size)
          have HO5 := Lib.hid (own_mono HO.out hzz)
          have K9 := KKr.out
          have e0 := K9.cell 0
          have e1 := K9.cell 1
          simp only [List.getElem?_toArray, List.getElem?_cons_succ, List.getElem?_cons_zero] at e0 e1
          have ze := K9.lt
          clear hb
          go_wp2
          go_ret2
          rw [F.out.1, F.out.2, hl.out]
          exact ⟨A2, n2, c2, rfl, HO5.out, hln.out, by omega, HBx.out⟩
end Go.Proofs.Ytkldejbhhbgefaa
