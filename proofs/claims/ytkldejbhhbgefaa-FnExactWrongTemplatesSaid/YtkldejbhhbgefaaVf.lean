/- Vote: the program's and the reference's. -/
import Derived.Test.YtkldejbhhbgefaaVe
namespace Go.Proofs.Ytkldejbhhbgefaa
open Go.ChangeShapes Go.WideShapes Go.ChangeAt Go.RowKit
set_option linter.unusedVariables false
set_option linter.unusedSimpArgs false
def voT (z : Int) (ts : List TV) (xs : List T3) (kk : Int) : SL8 := vtV (vsV ts (nrS kk (mtS xs ts z ts.length)))
def voE (z : Int) (ts : List TV) (xs : List T3) (kk : Int) : Int := if (storeB z ts && featsOk 72 xs) = true then (if inB 1 40 kk = true then (if voT z ts xs kk = [] then 3 else 0) else 2) else 1
def voS (z : Int) (ts : List TV) (xs : List T3) (kk : Int) : SL8 := if (storeB z ts && featsOk 72 xs) = true then (if inB 1 40 kk = true then voT z ts xs kk else []) else []
theorem vo_bad {z : Int} {ts : List TV} {xs : List T3} {kk : Int} (h : (storeB z ts && featsOk 72 xs) = false) : voE z ts xs kk = 1 ∧ voS z ts xs kk = [] := by unfold voE voS; rw [h]; exact ⟨rfl, rfl⟩
theorem vo_bad2 {z : Int} {ts : List TV} {xs : List T3} {kk : Int} (h : storeB z ts = true) (h' : featsOk 72 xs = true) (h2 : inB 1 40 kk = false) : voE z ts xs kk = 2 ∧ voS z ts xs kk = [] := by unfold voE voS; rw [h, h', h2]; exact ⟨rfl, rfl⟩
theorem vo_ok {z : Int} {ts : List TV} {xs : List T3} {kk : Int} (h : storeB z ts = true) (h' : featsOk 72 xs = true) (h2 : inB 1 40 kk = true) : voE z ts xs kk = (if voT z ts xs kk = [] then 3 else 0) ∧ voS z ts xs kk = voT z ts xs kk := by unfold voE voS; rw [h, h', h2]; exact ⟨rfl, rfl⟩
set_option maxRecDepth 100000 in
set_option maxHeartbeats 4000000 in
theorem iVote_any (z kk : Int) (A B : Option Addr) (n ca m cb : Nat) (ts : List TV) (xs : List T3) (w : World) (hs : TL w w.heap.size A m cb ts) (hr : RdL c3 3 w w.heap.size B n ca xs) (hm : totT ts ≤ 1048576) (hn : n ≤ 1048576) :
    Calls Try.prog 32 #[.agg #[.int .i64 z, .slice A m cb], .slice B n ca, .int .i64 kk] w fun e w' => e = .returned (.tuple #[.string (b8 (voS z ts xs kk)), .int .i64 (voE z ts xs kk)]) ∧ Below w.heap.size w w' := by
  have hl := Lib.hid hs.len
  have HM := Lib.hid hm
  clear hm
  cases h0 : storeB z ts with
  | false =>
    have F := Lib.hid (vo_bad (xs := xs) (kk := kk) (show (storeB z ts && featsOk 72 xs) = false by rw [h0]; rfl))
    have H0 := Lib.hid h0
    clear h0
    go_enter Try.func32, Try.ntmps32
    go_wp2_with fail
    have K0 := Blk.new (w) 31 #[.int .i64 z, .slice A m cb]
    have hbv : Below (w).heap.size (w) ((w).alloc (.cells #[.int .i64 z, .slice A m cb] 31)) := (Below.refl _ _).alloc (Nat.le_refl _) _
    replace hs := hs.on hbv
    replace hr := hr.on hbv
    generalize (w).alloc (.cells #[.int .i64 z, .slice A m cb] 31) = v at *
    with_reducible refine (iValidStore_any z _ _ _ ts _ hs HM.out).mono ?_
    rintro e w1 ⟨rfl, hb1⟩
    rw [H0.out]
    clear hs hr
    go_wp2
    go_ret2
    rw [F.out.1, F.out.2]
    exact ⟨rfl, below_on hb1 hbv⟩
  | true =>
    cases h1 : featsOk 72 xs with
    | false =>
      have F := Lib.hid (vo_bad (z := z) (ts := ts) (kk := kk) (show (storeB z ts && featsOk 72 xs) = false by rw [h1, Bool.and_false]))
      have H0 := Lib.hid h0
      have H1 := Lib.hid h1
      clear h0 h1
      go_enter Try.func32, Try.ntmps32
      go_wp2_with fail
      have K0 := Blk.new (w) 31 #[.int .i64 z, .slice A m cb]
      have hbv : Below (w).heap.size (w) ((w).alloc (.cells #[.int .i64 z, .slice A m cb] 31)) := (Below.refl _ _).alloc (Nat.le_refl _) _
      replace hs := hs.on hbv
      replace hr := hr.on hbv
      generalize (w).alloc (.cells #[.int .i64 z, .slice A m cb] 31) = v at *
      with_reducible refine (iValidStore_any z _ _ _ ts _ hs HM.out).mono ?_
      rintro e w1 ⟨rfl, hb1⟩
      rw [H0.out]
      replace hs := hs.on hb1
      replace hr := hr.on hb1
      replace K0 := K0.on hb1
      replace hbv := below_on hb1 hbv
      go_wp2_with fail
      with_reducible refine (iValidSeq_any _ _ _ xs _ hr hn).mono ?_
      rintro e w2 ⟨rfl, hbw2⟩
      rw [H1.out]
      clear hs hr
      go_wp2
      go_ret2
      rw [F.out.1, F.out.2]
      exact ⟨rfl, below_on hbw2 hbv⟩
    | true =>
      have hm40 : m ≤ 40 := by have h := storeB_len h0; rw [hl.out] at h; exact h
      cases h2 : inB 1 40 kk with
      | false =>
        have F := Lib.hid (vo_bad2 h0 h1 h2)
        have H0 := Lib.hid h0
        have H1 := Lib.hid h1
        have H2 := Lib.hid h2
        clear h0 h1 h2
        go_enter Try.func32, Try.ntmps32
        go_wp2_with fail
        have K0 := Blk.new (w) 31 #[.int .i64 z, .slice A m cb]
        have hbv : Below (w).heap.size (w) ((w).alloc (.cells #[.int .i64 z, .slice A m cb] 31)) := (Below.refl _ _).alloc (Nat.le_refl _) _
        replace hs := hs.on hbv
        replace hr := hr.on hbv
        generalize (w).alloc (.cells #[.int .i64 z, .slice A m cb] 31) = v at *
        with_reducible refine (iValidStore_any z _ _ _ ts _ hs HM.out).mono ?_
        rintro e w1 ⟨rfl, hb1⟩
        rw [H0.out]
        replace hs := hs.on hb1
        replace hr := hr.on hb1
        replace K0 := K0.on hb1
        replace hbv := below_on hb1 hbv
        go_wp2_with fail
        with_reducible refine (iValidSeq_any _ _ _ xs _ hr hn).mono ?_
        rintro e w2 ⟨rfl, hbw2⟩
        rw [H1.out]
        replace hs := hs.on hbw2
        replace hr := hr.on hbw2
        replace K0 := K0.on hbw2
        replace hbv := below_on hbw2 hbv
        go_wp2_with fail
        with_reducible refine (within_any _ _ _ _).mono ?_
        rintro e w' ⟨rfl, rfl⟩
        rw [H2.out]
        clear hs hr
        go_wp2
        go_ret2
        rw [F.out.1, F.out.2]
        exact ⟨rfl, hbv⟩
      | true =>
        have F := Lib.hid (vo_ok h0 h1 h2)
        have H0 := Lib.hid h0
        have H1 := Lib.hid h1
        have H2 := Lib.hid h2
        obtain ⟨hk1, hk2⟩ := inB_iff.1 h2
        clear h0 h1 h2
        go_enter Try.func32, Try.ntmps32
        go_wp2_with fail
        have K0 := Blk.new (w) 31 #[.int .i64 z, .slice A m cb]
        have hbv : Below (w).heap.size (w) ((w).alloc (.cells #[.int .i64 z, .slice A m cb] 31)) := (Below.refl _ _).alloc (Nat.le_refl _) _
        replace hs := hs.on hbv
        replace hr := hr.on hbv
        generalize (w).alloc (.cells #[.int .i64 z, .slice A m cb] 31) = v at *
        with_reducible refine (iValidStore_any z _ _ _ ts _ hs HM.out).mono ?_
        rintro e w1 ⟨rfl, hb1⟩
        rw [H0.out]
        replace hs := hs.on hb1
        replace hr := hr.on hb1
        replace K0 := K0.on hb1
        replace hbv := below_on hb1 hbv
        go_wp2_with fail
        with_reducible refine (iValidSeq_any _ _ _ xs _ hr hn).mono ?_
        rintro e w2 ⟨rfl, hbw2⟩
        rw [H1.out]
        replace hs := hs.on hbw2
        replace hr := hr.on hbw2
        replace K0 := K0.on hbw2
        replace hbv := below_on hbw2 hbv
        go_wp2_with fail
        with_reducible refine (within_any _ _ _ _).mono ?_
        rintro e w' ⟨rfl, rfl⟩
        rw [H2.out]
        have hzz := hbv.size
        have e0 := K0.cell 0
        have e1 := K0.cell 1
        simp only [List.getElem?_toArray, List.getElem?_cons_succ, List.getElem?_cons_zero] at e0 e1
        have z1 := K0.lt
        go_wp2_with fail
        with_reducible refine (vote_any z kk _ _ _ _ _ _ ts xs _ hs hr HM.out hn H0.out H1.out hk1 hk2).mono ?_
        rintro e w3 ⟨rfl, hbw3⟩
        replace hbv := below_on hbw3 hbv
        have HTv : Hid (vtV (vsV ts (nrS kk (mtS xs ts z m))) = voT z ts xs kk) := by show _ = _; unfold voT; rw [hl.out]
        rw [HTv.out]
        obtain ⟨V, hV⟩ : ∃ V, voT z ts xs kk = V := ⟨_, rfl⟩
        rw [hV] at F ⊢
        clear e0 e1 z1 hs hr K0
        by_cases hv : V = []
        · have c1 : (b8 V).toList.isEmpty = true := by rw [b8_list, hv]; rfl
          have F2 : Hid (voE z ts xs kk = 3) := by show _ = _; rw [F.out.1, if_pos hv]
          have F3 : Hid (voS z ts xs kk = []) := by show _ = _; rw [F.out.2, hv]
          clear hv hV
          go_wp2
          go_ret2
          rw [F2.out, F3.out]
          exact ⟨rfl, hbv⟩
        · have c1 : (b8 V).toList.isEmpty = false := by rw [b8_list]; simpa using hv
          have F2 : Hid (voE z ts xs kk = 0) := by show _ = _; rw [F.out.1, if_neg hv]
          clear hv
          go_wp2
          go_ret2
          rw [F2.out, F.out.2]
          exact ⟨rfl, hbv⟩
set_option maxRecDepth 100000 in
set_option maxHeartbeats 4000000 in
theorem sVote_any (z kk : Int) (A B : Option Addr) (n ca m cb : Nat) (ts : List TV) (xs : List T3) (w : World) (hs : TL w w.heap.size A m cb ts) (hr : RdL c3 3 w w.heap.size B n ca xs) (hm : totT ts ≤ 1048576) (hn : n ≤ 1048576) :
    Calls Try.prog 31 #[.agg #[.int .i64 z, .slice A m cb], .slice B n ca, .int .i64 kk] w fun e w' => e = .returned (.tuple #[.string (b8 (voS z ts xs kk)), .int .i64 (voE z ts xs kk)]) ∧ Below w.heap.size w w' := by
  have hl := Lib.hid hs.len
  have HM := Lib.hid hm
  clear hm
  cases h0 : storeB z ts with
  | false =>
    have F := Lib.hid (vo_bad (xs := xs) (kk := kk) (show (storeB z ts && featsOk 72 xs) = false by rw [h0]; rfl))
    have H0 := Lib.hid h0
    clear h0
    go_enter Try.func31, Try.ntmps31
    go_wp2_with fail
    have K0 := Blk.new (w) 31 #[.int .i64 z, .slice A m cb]
    have hbv : Below (w).heap.size (w) ((w).alloc (.cells #[.int .i64 z, .slice A m cb] 31)) := (Below.refl _ _).alloc (Nat.le_refl _) _
    replace hs := hs.on hbv
    replace hr := hr.on hbv
    generalize (w).alloc (.cells #[.int .i64 z, .slice A m cb] 31) = v at *
    with_reducible refine (l11Code0_ptr z kk _ _ _ _ _ _ ts xs _ _ (Blk.at2 K0).1 (Blk.at2 K0).2 hs hr HM.out hn H0.out).mono ?_
    rintro e w1 ⟨rfl, hb1⟩
    clear hs hr
    go_wp2
    go_ret2
    rw [F.out.1, F.out.2]
    exact ⟨rfl, below_on hb1 hbv⟩
  | true =>
    cases h1 : featsOk 72 xs with
    | false =>
      have F := Lib.hid (vo_bad (z := z) (ts := ts) (kk := kk) (show (storeB z ts && featsOk 72 xs) = false by rw [h1, Bool.and_false]))
      have H0 := Lib.hid h0
      have H1 := Lib.hid h1
      clear h0 h1
      go_enter Try.func31, Try.ntmps31
      go_wp2_with fail
      have K0 := Blk.new (w) 31 #[.int .i64 z, .slice A m cb]
      have hbv : Below (w).heap.size (w) ((w).alloc (.cells #[.int .i64 z, .slice A m cb] 31)) := (Below.refl _ _).alloc (Nat.le_refl _) _
      replace hs := hs.on hbv
      replace hr := hr.on hbv
      generalize (w).alloc (.cells #[.int .i64 z, .slice A m cb] 31) = v at *
      with_reducible refine (l11Code1_ptr z kk _ _ _ _ _ _ ts xs _ _ (Blk.at2 K0).1 (Blk.at2 K0).2 hs hr HM.out hn H0.out H1.out).mono ?_
      rintro e w1 ⟨rfl, hb1⟩
      clear hs hr
      go_wp2
      go_ret2
      rw [F.out.1, F.out.2]
      exact ⟨rfl, below_on hb1 hbv⟩
    | true =>
      have hm40 : m ≤ 40 := by have h := storeB_len h0; rw [hl.out] at h; exact h
      cases h2 : inB 1 40 kk with
      | false =>
        have F := Lib.hid (vo_bad2 h0 h1 h2)
        have H0 := Lib.hid h0
        have H1 := Lib.hid h1
        have H2 := Lib.hid h2
        clear h0 h1 h2
        go_enter Try.func31, Try.ntmps31
        go_wp2_with fail
        have K0 := Blk.new (w) 31 #[.int .i64 z, .slice A m cb]
        have hbv : Below (w).heap.size (w) ((w).alloc (.cells #[.int .i64 z, .slice A m cb] 31)) := (Below.refl _ _).alloc (Nat.le_refl _) _
        replace hs := hs.on hbv
        replace hr := hr.on hbv
        generalize (w).alloc (.cells #[.int .i64 z, .slice A m cb] 31) = v at *
        with_reducible refine (l11Code2_ptr z kk _ _ _ _ _ _ ts xs _ _ (Blk.at2 K0).1 (Blk.at2 K0).2 hs hr HM.out hn H0.out H1.out H2.out).mono ?_
        rintro e w1 ⟨rfl, hb1⟩
        clear hs hr
        go_wp2
        go_ret2
        rw [F.out.1, F.out.2]
        exact ⟨rfl, below_on hb1 hbv⟩
      | true =>
        have F := Lib.hid (vo_ok h0 h1 h2)
        have H0 := Lib.hid h0
        have H1 := Lib.hid h1
        have H2 := Lib.hid h2
        obtain ⟨hk1, hk2⟩ := inB_iff.1 h2
        clear h0 h1 h2
        go_enter Try.func31, Try.ntmps31
        go_wp2_with fail
        have K0 := Blk.new (w) 31 #[.int .i64 z, .slice A m cb]
        have hbv : Below (w).heap.size (w) ((w).alloc (.cells #[.int .i64 z, .slice A m cb] 31)) := (Below.refl _ _).alloc (Nat.le_refl _) _
        replace hs := hs.on hbv
        replace hr := hr.on hbv
        generalize (w).alloc (.cells #[.int .i64 z, .slice A m cb] 31) = v at *
        with_reducible refine (l11Code3_ptr z kk _ _ _ _ _ _ ts xs _ _ (Blk.at2 K0).1 (Blk.at2 K0).2 hs hr HM.out hn H0.out H1.out H2.out).mono ?_
        rintro e w1 ⟨rfl, hb1⟩
        replace hs := hs.on hb1
        replace hr := hr.on hb1
        replace K0 := K0.on hb1
        replace hbv := below_on hb1 hbv
        have hzz := hbv.size
        go_wp2_with fail
        with_reducible refine (l11Vote_ptr z kk _ _ _ _ _ _ ts xs _ _ (Blk.at2 K0).1 (Blk.at2 K0).2 hs hr HM.out hn H0.out H1.out hk1 hk2).mono ?_
        rintro e w3 ⟨rfl, hbw3⟩
        replace hbv := below_on hbw3 hbv
        have HTv : Hid (vtV (vsV ts (nrS kk (mtS xs ts z m))) = voT z ts xs kk) := by show _ = _; unfold voT; rw [hl.out]
        rw [HTv.out]
        obtain ⟨V, hV⟩ : ∃ V, voT z ts xs kk = V := ⟨_, rfl⟩
        rw [hV] at F ⊢
        clear hs hr K0
        by_cases hv : V = []
        · have c1 : (b8 V).toList.isEmpty = true := by rw [b8_list, hv]; rfl
          have F2 : Hid (voE z ts xs kk = 3) := by show _ = _; rw [F.out.1, if_pos hv]
          have F3 : Hid (voS z ts xs kk = []) := by show _ = _; rw [F.out.2, hv]
          clear hv hV
          go_wp2
          go_ret2
          rw [F2.out, F3.out]
          exact ⟨rfl, hbv⟩
        · have c1 : (b8 V).toList.isEmpty = false := by rw [b8_list]; simpa using hv
          have F2 : Hid (voE z ts xs kk = 0) := by show _ = _; rw [F.out.1, if_neg hv]
          clear hv
          go_wp2
          go_ret2
          rw [F2.out, F.out.2]
          exact ⟨rfl, hbv⟩
end Go.Proofs.Ytkldejbhhbgefaa
