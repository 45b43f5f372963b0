/- Nearest: the program's and the reference's. -/
import Derived.Test.YtkldejbhhbgefaaNt
namespace Go.Proofs.Ytkldejbhhbgefaa
open Go.ChangeShapes Go.WideShapes Go.ChangeAt Go.RowKit
set_option linter.unusedVariables false
set_option linter.unusedSimpArgs false
set_option maxHeartbeats 4000000 in
theorem l11Code0_ptr (z kk : Int) (A B : Option Addr) (n ca m cb : Nat) (ts : List TV) (xs : List T3) (w : World) (g0 : Nat) (K0 : Cel w g0 0 (.int .i64 z)) (K1 : Cel w g0 1 (.slice A m cb)) (hs : TL w w.heap.size A m cb ts) (hr : RdL c3 3 w w.heap.size B n ca xs) (hm : totT ts ≤ 1048576) (hn : n ≤ 1048576) (h0 : storeB z ts = false) :
    Calls Try.prog 57 #[.pointer (some ⟨g0, 0, none⟩), .slice B n ca, .int .i64 kk] w fun e w' => e = .returned (.int .i64 1) ∧ Below w.heap.size w w' := by
  have HM := Lib.hid hm
  have H0 := Lib.hid h0
  clear hm h0  
  go_enter Try.func57, Try.ntmps57
  go_wp2_with fail
  with_reducible refine (l11Ok_ptr z _ _ _ ts _ _ K0 K1 hs HM.out).mono ?_
  rintro e w1 ⟨rfl, hb1⟩
  rw [H0.out]
  clear hs hr K0 K1
  go_wp2
  go_ret
  exact ⟨rfl, hb1⟩
set_option maxHeartbeats 4000000 in
theorem l11Code1_ptr (z kk : Int) (A B : Option Addr) (n ca m cb : Nat) (ts : List TV) (xs : List T3) (w : World) (g0 : Nat) (K0 : Cel w g0 0 (.int .i64 z)) (K1 : Cel w g0 1 (.slice A m cb)) (hs : TL w w.heap.size A m cb ts) (hr : RdL c3 3 w w.heap.size B n ca xs) (hm : totT ts ≤ 1048576) (hn : n ≤ 1048576) (h0 : storeB z ts = true) (h1 : featsOk 72 xs = false) :
    Calls Try.prog 57 #[.pointer (some ⟨g0, 0, none⟩), .slice B n ca, .int .i64 kk] w fun e w' => e = .returned (.int .i64 1) ∧ Below w.heap.size w w' := by
  have HM := Lib.hid hm
  have H0 := Lib.hid h0
  have H1 := Lib.hid h1
  clear hm h0 h1 
  go_enter Try.func57, Try.ntmps57
  go_wp2_with fail
  with_reducible refine (l11Ok_ptr z _ _ _ ts _ _ K0 K1 hs HM.out).mono ?_
  rintro e w1 ⟨rfl, hb1⟩
  rw [H0.out]
  replace hr := hr.on hb1
  go_wp2_with fail
  with_reducible refine (l09Ok_any _ _ _ xs _ hr hn).mono ?_
  rintro e w2 ⟨rfl, hbw2⟩
  rw [H1.out]
  clear hs hr K0 K1
  go_wp2
  go_ret
  exact ⟨rfl, below_on hbw2 hb1⟩
set_option maxHeartbeats 4000000 in
theorem l11Code2_ptr (z kk : Int) (A B : Option Addr) (n ca m cb : Nat) (ts : List TV) (xs : List T3) (w : World) (g0 : Nat) (K0 : Cel w g0 0 (.int .i64 z)) (K1 : Cel w g0 1 (.slice A m cb)) (hs : TL w w.heap.size A m cb ts) (hr : RdL c3 3 w w.heap.size B n ca xs) (hm : totT ts ≤ 1048576) (hn : n ≤ 1048576) (h0 : storeB z ts = true) (h1 : featsOk 72 xs = true) (h2 : inB 1 40 kk = false) :
    Calls Try.prog 57 #[.pointer (some ⟨g0, 0, none⟩), .slice B n ca, .int .i64 kk] w fun e w' => e = .returned (.int .i64 2) ∧ Below w.heap.size w w' := by
  have HM := Lib.hid hm
  have H0 := Lib.hid h0
  have H1 := Lib.hid h1
  have H2 := Lib.hid h2
  clear hm h0 h1 h2
  go_enter Try.func57, Try.ntmps57
  go_wp2_with fail
  with_reducible refine (l11Ok_ptr z _ _ _ ts _ _ K0 K1 hs HM.out).mono ?_
  rintro e w1 ⟨rfl, hb1⟩
  rw [H0.out]
  replace hr := hr.on hb1
  go_wp2_with fail
  with_reducible refine (l09Ok_any _ _ _ xs _ hr hn).mono ?_
  rintro e w2 ⟨rfl, hbw2⟩
  rw [H1.out]
  clear hs hr K0 K1
  go_wp2_with fail
  with_reducible refine (l00In_any _ _ _ _).mono ?_
  rintro e w' ⟨rfl, rfl⟩
  rw [H2.out]
  go_wp2
  go_ret
  exact ⟨rfl, below_on hbw2 hb1⟩
set_option maxHeartbeats 4000000 in
theorem l11Code3_ptr (z kk : Int) (A B : Option Addr) (n ca m cb : Nat) (ts : List TV) (xs : List T3) (w : World) (g0 : Nat) (K0 : Cel w g0 0 (.int .i64 z)) (K1 : Cel w g0 1 (.slice A m cb)) (hs : TL w w.heap.size A m cb ts) (hr : RdL c3 3 w w.heap.size B n ca xs) (hm : totT ts ≤ 1048576) (hn : n ≤ 1048576) (h0 : storeB z ts = true) (h1 : featsOk 72 xs = true) (h2 : inB 1 40 kk = true) :
    Calls Try.prog 57 #[.pointer (some ⟨g0, 0, none⟩), .slice B n ca, .int .i64 kk] w fun e w' => e = .returned (.int .i64 0) ∧ Below w.heap.size w w' := by
  have HM := Lib.hid hm
  have H0 := Lib.hid h0
  have H1 := Lib.hid h1
  have H2 := Lib.hid h2
  clear hm h0 h1 h2
  go_enter Try.func57, Try.ntmps57
  go_wp2_with fail
  with_reducible refine (l11Ok_ptr z _ _ _ ts _ _ K0 K1 hs HM.out).mono ?_
  rintro e w1 ⟨rfl, hb1⟩
  rw [H0.out]
  replace hr := hr.on hb1
  go_wp2_with fail
  with_reducible refine (l09Ok_any _ _ _ xs _ hr hn).mono ?_
  rintro e w2 ⟨rfl, hbw2⟩
  rw [H1.out]
  clear hs hr K0 K1
  go_wp2_with fail
  with_reducible refine (l00In_any _ _ _ _).mono ?_
  rintro e w' ⟨rfl, rfl⟩
  rw [H2.out]
  go_wp2
  go_ret
  exact ⟨rfl, below_on hbw2 hb1⟩
set_option maxRecDepth 100000 in
set_option maxHeartbeats 4000000 in
theorem iNearest_any (z kk : Int) (A B : Option Addr) (n ca m cb : Nat) (ts : List TV) (xs : List T3) (w : World) (hs : TL w w.heap.size A m cb ts) (hr : RdL c3 3 w w.heap.size B n ca xs) (hm : totT ts ≤ 1048576) (hn : n ≤ 1048576) :
    Calls Try.prog 27 #[.agg #[.int .i64 z, .slice A m cb], .slice B n ca, .int .i64 kk] w fun e w' => ∃ A' n' c', e = .returned (.tuple #[.slice A' n' c', .int .i64 (nrE z ts xs kk)]) ∧ w'.ownsRow w.heap.size 92 2 (.slice A' n' c') n' ((nrL z ts xs kk).flatMap c2) ∧
      (nrL z ts xs kk).length = n' ∧ n' ≤ 1048576 ∧ Below w.heap.size w w' := by
  have hl := Lib.hid hs.len
  have HM := Lib.hid hm
  clear hm
  cases h0 : storeB z ts with
  | false =>
    have F := Lib.hid (nr_bad (xs := xs) (kk := kk) (show (storeB z ts && featsOk 72 xs) = false by rw [h0]; rfl))
    have H0 := Lib.hid h0
    clear h0
    go_enter Try.func27, Try.ntmps27
    go_wp2_with fail
    have K0 := Blk.new (w) 31 #[.int .i64 z, .slice A m cb]
    have hbv : Below (w).heap.size (w) ((w).alloc (.cells #[.int .i64 z, .slice A m cb] 31)) := (Below.refl _ _).alloc (Nat.le_refl _) _
    replace hs := hs.on hbv
    replace hr := hr.on hbv
    generalize (w).alloc (.cells #[.int .i64 z, .slice A m cb] 31) = v at *
    with_reducible refine (iValidStore_any z _ _ _ ts _ hs HM.out).mono ?_
    rintro e w1 ⟨rfl, hb1⟩
    rw [H0.out]
    clear hs hr
    go_wp2
    go_ret2
    rw [F.out.1, F.out.2]
    exact ⟨none, 0, 0, rfl, World.ownsRow_nil _ _ _ _, rfl, by decide, below_on hb1 hbv⟩
  | true =>
    cases h1 : featsOk 72 xs with
    | false =>
      have F := Lib.hid (nr_bad (z := z) (ts := ts) (kk := kk) (show (storeB z ts && featsOk 72 xs) = false by rw [h1, Bool.and_false]))
      have H0 := Lib.hid h0
      have H1 := Lib.hid h1
      clear h0 h1
      go_enter Try.func27, Try.ntmps27
      go_wp2_with fail
      have K0 := Blk.new (w) 31 #[.int .i64 z, .slice A m cb]
      have hbv : Below (w).heap.size (w) ((w).alloc (.cells #[.int .i64 z, .slice A m cb] 31)) := (Below.refl _ _).alloc (Nat.le_refl _) _
      replace hs := hs.on hbv
      replace hr := hr.on hbv
      generalize (w).alloc (.cells #[.int .i64 z, .slice A m cb] 31) = v at *
      with_reducible refine (iValidStore_any z _ _ _ ts _ hs HM.out).mono ?_
      rintro e w1 ⟨rfl, hb1⟩
      rw [H0.out]
      replace hs := hs.on hb1
      replace hr := hr.on hb1
      replace K0 := K0.on hb1
      replace hbv := below_on hb1 hbv
      go_wp2_with fail
      with_reducible refine (iValidSeq_any _ _ _ xs _ hr hn).mono ?_
      rintro e w2 ⟨rfl, hbw2⟩
      rw [H1.out]
      clear hs hr
      go_wp2
      go_ret2
      rw [F.out.1, F.out.2]
      exact ⟨none, 0, 0, rfl, World.ownsRow_nil _ _ _ _, rfl, by decide, below_on hbw2 hbv⟩
    | true =>
      have hm40 : m ≤ 40 := by have h := storeB_len h0; rw [hl.out] at h; exact h
      cases h2 : inB 1 40 kk with
      | false =>
        have F := Lib.hid (nr_bad2 h0 h1 h2)
        have H0 := Lib.hid h0
        have H1 := Lib.hid h1
        have H2 := Lib.hid h2
        clear h0 h1 h2
        go_enter Try.func27, Try.ntmps27
        go_wp2_with fail
        have K0 := Blk.new (w) 31 #[.int .i64 z, .slice A m cb]
        have hbv : Below (w).heap.size (w) ((w).alloc (.cells #[.int .i64 z, .slice A m cb] 31)) := (Below.refl _ _).alloc (Nat.le_refl _) _
        replace hs := hs.on hbv
        replace hr := hr.on hbv
        generalize (w).alloc (.cells #[.int .i64 z, .slice A m cb] 31) = v at *
        with_reducible refine (iValidStore_any z _ _ _ ts _ hs HM.out).mono ?_
        rintro e w1 ⟨rfl, hb1⟩
        rw [H0.out]
        replace hs := hs.on hb1
        replace hr := hr.on hb1
        replace K0 := K0.on hb1
        replace hbv := below_on hb1 hbv
        go_wp2_with fail
        with_reducible refine (iValidSeq_any _ _ _ xs _ hr hn).mono ?_
        rintro e w2 ⟨rfl, hbw2⟩
        rw [H1.out]
        replace hs := hs.on hbw2
        replace hr := hr.on hbw2
        replace K0 := K0.on hbw2
        replace hbv := below_on hbw2 hbv
        go_wp2_with fail
        with_reducible refine (within_any _ _ _ _).mono ?_
        rintro e w' ⟨rfl, rfl⟩
        rw [H2.out]
        clear hs hr
        go_wp2
        go_ret2
        rw [F.out.1, F.out.2]
        exact ⟨none, 0, 0, rfl, World.ownsRow_nil _ _ _ _, rfl, by decide, hbv⟩
      | true =>
        have F := Lib.hid (nr_ok h0 h1 h2)
        have H0 := Lib.hid h0
        have H1 := Lib.hid h1
        have H2 := Lib.hid h2
        obtain ⟨hk1, hk2⟩ := inB_iff.1 h2
        clear h0 h1 h2
        go_enter Try.func27, Try.ntmps27
        go_wp2_with fail
        have K0 := Blk.new (w) 31 #[.int .i64 z, .slice A m cb]
        have hbv : Below (w).heap.size (w) ((w).alloc (.cells #[.int .i64 z, .slice A m cb] 31)) := (Below.refl _ _).alloc (Nat.le_refl _) _
        replace hs := hs.on hbv
        replace hr := hr.on hbv
        generalize (w).alloc (.cells #[.int .i64 z, .slice A m cb] 31) = v at *
        with_reducible refine (iValidStore_any z _ _ _ ts _ hs HM.out).mono ?_
        rintro e w1 ⟨rfl, hb1⟩
        rw [H0.out]
        replace hs := hs.on hb1
        replace hr := hr.on hb1
        replace K0 := K0.on hb1
        replace hbv := below_on hb1 hbv
        go_wp2_with fail
        with_reducible refine (iValidSeq_any _ _ _ xs _ hr hn).mono ?_
        rintro e w2 ⟨rfl, hbw2⟩
        rw [H1.out]
        replace hs := hs.on hbw2
        replace hr := hr.on hbw2
        replace K0 := K0.on hbw2
        replace hbv := below_on hbw2 hbv
        go_wp2_with fail
        with_reducible refine (within_any _ _ _ _).mono ?_
        rintro e w' ⟨rfl, rfl⟩
        rw [H2.out]
        have hzz := hbv.size
        have e0 := K0.cell 0
        have e1 := K0.cell 1
        simp only [List.getElem?_toArray, List.getElem?_cons_succ, List.getElem?_cons_zero] at e0 e1
        have z1 := K0.lt
        go_wp2_with fail
        with_reducible refine (nearest_any z kk _ _ _ _ _ _ ts xs _ hs hr HM.out hn H0.out H1.out hk1 hk2).mono ?_
        rintro e w3 ⟨A', n', c', rfl, ow, lw, hbw3⟩
        have HO := Lib.hid ow
        have HLW := Lib.hid lw
        have hlen : n' ≤ 40 := by have h1 := nrS_len kk (mtS xs ts z m); have := mtS_len xs ts z m; rw [lw] at h1; omega
        replace hbv := below_on hbw3 hbv
        clear ow lw e0 e1 z1 hs hr K0
        go_wp2
        go_ret2
        rw [F.out.1, F.out.2, hl.out]
        exact ⟨A', n', c', rfl, own_mono HO.out hzz, HLW.out, by omega, hbv⟩
set_option maxRecDepth 100000 in
set_option maxHeartbeats 4000000 in
theorem sNearest_any (z kk : Int) (A B : Option Addr) (n ca m cb : Nat) (ts : List TV) (xs : List T3) (w : World) (hs : TL w w.heap.size A m cb ts) (hr : RdL c3 3 w w.heap.size B n ca xs) (hm : totT ts ≤ 1048576) (hn : n ≤ 1048576) :
    Calls Try.prog 26 #[.agg #[.int .i64 z, .slice A m cb], .slice B n ca, .int .i64 kk] w fun e w' => ∃ A' n' c', e = .returned (.tuple #[.slice A' n' c', .int .i64 (nrE z ts xs kk)]) ∧ w'.ownsRow w.heap.size 92 2 (.slice A' n' c') n' ((nrL z ts xs kk).flatMap c2) ∧
      (nrL z ts xs kk).length = n' ∧ n' ≤ 1048576 ∧ Below w.heap.size w w' := by
  have hl := Lib.hid hs.len
  have HM := Lib.hid hm
  clear hm
  cases h0 : storeB z ts with
  | false =>
    have F := Lib.hid (nr_bad (xs := xs) (kk := kk) (show (storeB z ts && featsOk 72 xs) = false by rw [h0]; rfl))
    have H0 := Lib.hid h0
    clear h0
    go_enter Try.func26, Try.ntmps26
    go_wp2_with fail
    have K0 := Blk.new (w) 31 #[.int .i64 z, .slice A m cb]
    have hbv : Below (w).heap.size (w) ((w).alloc (.cells #[.int .i64 z, .slice A m cb] 31)) := (Below.refl _ _).alloc (Nat.le_refl _) _
    replace hs := hs.on hbv
    replace hr := hr.on hbv
    generalize (w).alloc (.cells #[.int .i64 z, .slice A m cb] 31) = v at *
    with_reducible refine (l11Code0_ptr z kk _ _ _ _ _ _ ts xs _ _ (Blk.at2 K0).1 (Blk.at2 K0).2 hs hr HM.out hn H0.out).mono ?_
    rintro e w1 ⟨rfl, hb1⟩
    clear hs hr
    go_wp2
    go_ret2
    rw [F.out.1, F.out.2]
    exact ⟨none, 0, 0, rfl, World.ownsRow_nil _ _ _ _, rfl, by decide, below_on hb1 hbv⟩
  | true =>
    cases h1 : featsOk 72 xs with
    | false =>
      have F := Lib.hid (nr_bad (z := z) (ts := ts) (kk := kk) (show (storeB z ts && featsOk 72 xs) = false by rw [h1, Bool.and_false]))
      have H0 := Lib.hid h0
      have H1 := Lib.hid h1
      clear h0 h1
      go_enter Try.func26, Try.ntmps26
      go_wp2_with fail
      have K0 := Blk.new (w) 31 #[.int .i64 z, .slice A m cb]
      have hbv : Below (w).heap.size (w) ((w).alloc (.cells #[.int .i64 z, .slice A m cb] 31)) := (Below.refl _ _).alloc (Nat.le_refl _) _
      replace hs := hs.on hbv
      replace hr := hr.on hbv
      generalize (w).alloc (.cells #[.int .i64 z, .slice A m cb] 31) = v at *
      with_reducible refine (l11Code1_ptr z kk _ _ _ _ _ _ ts xs _ _ (Blk.at2 K0).1 (Blk.at2 K0).2 hs hr HM.out hn H0.out H1.out).mono ?_
      rintro e w1 ⟨rfl, hb1⟩
      clear hs hr
      go_wp2
      go_ret2
      rw [F.out.1, F.out.2]
      exact ⟨none, 0, 0, rfl, World.ownsRow_nil _ _ _ _, rfl, by decide, below_on hb1 hbv⟩
    | true =>
      have hm40 : m ≤ 40 := by have h := storeB_len h0; rw [hl.out] at h; exact h
      cases h2 : inB 1 40 kk with
      | false =>
        have F := Lib.hid (nr_bad2 h0 h1 h2)
        have H0 := Lib.hid h0
        have H1 := Lib.hid h1
        have H2 := Lib.hid h2
        clear h0 h1 h2
        go_enter Try.func26, Try.ntmps26
        go_wp2_with fail
        have K0 := Blk.new (w) 31 #[.int .i64 z, .slice A m cb]
        have hbv : Below (w).heap.size (w) ((w).alloc (.cells #[.int .i64 z, .slice A m cb] 31)) := (Below.refl _ _).alloc (Nat.le_refl _) _
        replace hs := hs.on hbv
        replace hr := hr.on hbv
        generalize (w).alloc (.cells #[.int .i64 z, .slice A m cb] 31) = v at *
        with_reducible refine (l11Code2_ptr z kk _ _ _ _ _ _ ts xs _ _ (Blk.at2 K0).1 (Blk.at2 K0).2 hs hr HM.out hn H0.out H1.out H2.out).mono ?_
        rintro e w1 ⟨rfl, hb1⟩
        clear hs hr
        go_wp2
        go_ret2
        rw [F.out.1, F.out.2]
        exact ⟨none, 0, 0, rfl, World.ownsRow_nil _ _ _ _, rfl, by decide, below_on hb1 hbv⟩
      | true =>
        have F := Lib.hid (nr_ok h0 h1 h2)
        have H0 := Lib.hid h0
        have H1 := Lib.hid h1
        have H2 := Lib.hid h2
        obtain ⟨hk1, hk2⟩ := inB_iff.1 h2
        clear h0 h1 h2
        go_enter Try.func26, Try.ntmps26
        go_wp2_with fail
        have K0 := Blk.new (w) 31 #[.int .i64 z, .slice A m cb]
        have hbv : Below (w).heap.size (w) ((w).alloc (.cells #[.int .i64 z, .slice A m cb] 31)) := (Below.refl _ _).alloc (Nat.le_refl _) _
        replace hs := hs.on hbv
        replace hr := hr.on hbv
        generalize (w).alloc (.cells #[.int .i64 z, .slice A m cb] 31) = v at *
        with_reducible refine (l11Code3_ptr z kk _ _ _ _ _ _ ts xs _ _ (Blk.at2 K0).1 (Blk.at2 K0).2 hs hr HM.out hn H0.out H1.out H2.out).mono ?_
        rintro e w1 ⟨rfl, hb1⟩
        replace hs := hs.on hb1
        replace hr := hr.on hb1
        replace K0 := K0.on hb1
        replace hbv := below_on hb1 hbv
        have hzz := hbv.size
        go_wp2_with fail
        with_reducible refine (l11Nearest_ptr z kk _ _ _ _ _ _ ts xs _ _ (Blk.at2 K0).1 (Blk.at2 K0).2 hs hr HM.out hn H0.out H1.out hk1 hk2).mono ?_
        rintro e w3 ⟨A', n', c', rfl, ow, lw, hbw3⟩
        have HO := Lib.hid ow
        have HLW := Lib.hid lw
        have hlen : n' ≤ 40 := by have h1 := nrS_len kk (mtS xs ts z m); have := mtS_len xs ts z m; rw [lw] at h1; omega
        replace hbv := below_on hbw3 hbv
        clear ow lw hs hr K0
        go_wp2
        go_ret2
        rw [F.out.1, F.out.2, hl.out]
        exact ⟨A', n', c', rfl, own_mono HO.out hzz, HLW.out, by omega, hbv⟩

end Go.Proofs.Ytkldejbhhbgefaa
