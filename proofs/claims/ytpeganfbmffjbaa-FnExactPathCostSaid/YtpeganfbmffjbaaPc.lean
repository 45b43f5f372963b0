/- Contracts of PathCost, and of the codes of two sequences and a path. -/
import Derived.Test.YtpeganfbmffjbaaMk
import Derived.Test.YtpeganfbmffjbaaPt
import Derived.Test.YtpeganfbmffjbaaEn
import Derived.Deep.RegionHeld3
namespace Go.Proofs.Ytpeganfbmffjbaa
open Go.ChangeShapes Go.WideShapes Go.ChangeAt Go.RowKit
def codeP (a b : List T3) (p : List T2) : Int := if seqs2 a b = true then (if iPath p a.length b.length 72 = true then 0 else 2) else 1
def nth3 (a : List T3) (i : Int) : T3 := (a[i.toNat]?).getD (0, 0, 0)
def pcStep (a b : List T3) (s : Int) (p : T2) : Int := s + costF (nth3 a p.1) (nth3 b p.2)
def pcF (a b : List T3) (p : List T2) : Int := p.foldl (pcStep a b) 0
def pcV (a b : List T3) (p : List T2) : Int := if codeP a b p = 0 then pcF a b p else 0
theorem pc_step {a b : List T3} {p : List T2} {k : Nat} {x y : Int} (h : p[k]? = some (x, y)) : pcF a b (p.take (k + 1)) = pcF a b (p.take k) + costF (nth3 a x) (nth3 b y) := by
  unfold pcF; rw [fold_step h]; simp only [pcStep]
theorem seqs2_yes {a b : List T3} (h : seqs2 a b = true) : featsOk 72 a = true ∧ featsOk 72 b = true := Bool.and_eq_true_iff.1 h
/-- The pairs of a path lie within the two sequences. -/
theorem path_in {xs : List T2} {N M band : Int} (g : ∀ x ∈ xs, ok2 x) (hN : I64 N) (hM : I64 M) (hB : I64 band) (hn : xs.length ≤ 1048576) (h1 : 1 ≤ N) (h2 : 1 ≤ M) (h : iPath xs N M band = true) (k : Nat) {x y : Int} (hx : xs[k]? = some (x, y)) :
    (0 ≤ x ∧ x < N) ∧ (0 ≤ y ∧ y < M) := by
  have hs := path_same (band := band) g hN hM hB hn
  rw [decide_eq_true h1, decide_eq_true h2, Bool.true_and, Bool.true_and, h] at hs
  unfold sPath at hs
  have hk : k < xs.length := (List.getElem?_eq_some_iff.1 hx).1
  have hc := range_at (Bool.and_eq_true_iff.1 hs).2 hk
  unfold sChk sIn at hc
  rw [at0_of hx] at hc
  simp only [Bool.and_eq_true, inB_iff] at hc
  have w1 : wrap64 (N - 1) = N - 1 := by obtain ⟨_, _⟩ := hN; unfold wrap64; omega
  have w2 : wrap64 (M - 1) = M - 1 := by obtain ⟨_, _⟩ := hM; unfold wrap64; omega
  rw [w1, w2] at hc
  omega
set_option maxHeartbeats 1000000 in
theorem pathable_any (A A' A2 : Option Addr) (n c n' c' n2 c2' : Nat) (xs ys : List T3) (p : List T2) (w : World) (hr : RdL c3 3 w w.heap.size A n c xs) (hr' : RdL c3 3 w w.heap.size A' n' c' ys) (hp : RdL c2 2 w w.heap.size A2 n2 c2' p)
    (hn : n ≤ 1048576) (hn' : n' ≤ 1048576) (hn2 : n2 ≤ 1048576) :
    Calls Try.prog 98 #[.slice A n c, .slice A' n' c', .slice A2 n2 c2'] w fun e w' => e = .returned (.int .i64 (codeP xs ys p)) ∧ Below w.heap.size w w' := by
  have hl := Lib.hid hr.len
  have hl' := Lib.hid hr'.len
  by_cases h1 : featsOk 72 xs = true
  · have H1 := Lib.hid h1
    by_cases h2 : featsOk 72 ys = true
    · have H2 := Lib.hid h2
      have HC : Hid (codeP xs ys p = if iPath p n n' 72 = true then 0 else 2) := by
        unfold Hid codeP seqs2; rw [H1.out, H2.out, hl.out, hl'.out]; rfl
      by_cases h3 : iPath p n n' 72 = true
      all_goals
        have H3 := Lib.hid h3
        go_enter Try.func98, Try.ntmps98
        go_wp2_with fail
        with_reducible refine (iValidSeq_any _ _ _ xs _ hr hn).mono ?_
        rintro e w1 ⟨rfl, hb1⟩
        go_wp2_with fail
        with_reducible refine (iValidSeq_any _ _ _ ys _ (hr'.on hb1) hn').mono ?_
        rintro e w2 ⟨rfl, hb2⟩
        go_wp2_with fail
        with_reducible refine (iPath_any _ _ _ p _ _ _ _ ((hp.on hb1).on hb2) hn2).mono ?_
        rintro e w3 ⟨rfl, hb3⟩
        go_wp2
        go_ret
        exact ⟨ret_int (by rw [HC.out]; first | rw [if_pos H3.out] | rw [if_neg H3.out]), below_on hb3 (below_on hb2 hb1)⟩
    · have H2 : Hid (featsOk 72 ys = false) := by simpa [Hid] using h2
      have h2' := H2.out
      go_enter Try.func98, Try.ntmps98
      go_wp2_with fail
      with_reducible refine (iValidSeq_any _ _ _ xs _ hr hn).mono ?_
      rintro e w1 ⟨rfl, hb1⟩
      go_wp2_with fail
      with_reducible refine (iValidSeq_any _ _ _ ys _ (hr'.on hb1) hn').mono ?_
      rintro e w2 ⟨rfl, hb2⟩
      go_wp2
      go_ret
      exact ⟨ret_int (by unfold codeP seqs2; rw [H2.out, Bool.and_false]; rfl), below_on hb2 hb1⟩
  · have H1 : Hid (featsOk 72 xs = false) := by simpa [Hid] using h1
    have h1' := H1.out
    go_enter Try.func98, Try.ntmps98
    go_wp2_with fail
    with_reducible refine (iValidSeq_any _ _ _ xs _ hr hn).mono ?_
    rintro e w1 ⟨rfl, hb1⟩
    go_wp2
    go_ret
    exact ⟨ret_int (by unfold codeP seqs2; rw [H1.out, Bool.false_and]; rfl), hb1⟩
set_option maxHeartbeats 1000000 in
theorem l09Fits_any (A A' A2 : Option Addr) (n c n' c' n2 c2' : Nat) (xs ys : List T3) (p : List T2) (w : World) (hr : RdL c3 3 w w.heap.size A n c xs) (hr' : RdL c3 3 w w.heap.size A' n' c' ys) (hp : RdL c2 2 w w.heap.size A2 n2 c2' p)
    (hn : n ≤ 1048576) (hn' : n' ≤ 1048576) (hn2 : n2 ≤ 1048576) (g : ∀ x ∈ p, ok2 x) :
    Calls Try.prog 96 #[.slice A n c, .slice A' n' c', .slice A2 n2 c2'] w fun e w' => e = .returned (.int .i64 (codeP xs ys p)) ∧ Below w.heap.size w w' := by
  have hl := Lib.hid hr.len
  have hl' := Lib.hid hr'.len
  have G := Lib.hid g
  clear g
  by_cases h1 : featsOk 72 xs = true
  · have H1 := Lib.hid h1
    by_cases h2 : featsOk 72 ys = true
    · have H2 := Lib.hid h2
      have hle := featsOk_len h1
      have hle' := featsOk_len h2
      rw [hl.out] at hle
      rw [hl'.out] at hle'
      have hN : I64 (n : Int) := ⟨by omega, by omega⟩
      have hM : I64 (n' : Int) := ⟨by omega, by omega⟩
      have hB : I64 72 := ⟨by omega, by omega⟩
      have hN1 := hle.1
      have hM1 := hle'.1
      clear hle hle'
      have HC : Hid (codeP xs ys p = if iPath p n n' 72 = true then 0 else 2) := by
        unfold Hid codeP seqs2; rw [H1.out, H2.out, hl.out, hl'.out]; rfl
      by_cases h3 : iPath p n n' 72 = true
      all_goals
        have H3 := Lib.hid h3
        go_enter Try.func96, Try.ntmps96
        go_wp2_with fail
        with_reducible refine (l09Ok_any _ _ _ xs _ hr hn).mono ?_
        rintro e w1 ⟨rfl, hb1⟩
        go_wp2_with fail
        with_reducible refine (l09Ok_any _ _ _ ys _ (hr'.on hb1) hn').mono ?_
        rintro e w2 ⟨rfl, hb2⟩
        go_wp2_with fail
        with_reducible refine (l09Path_in _ _ _ p _ _ _ _ ((hp.on hb1).on hb2) hn2 G.out hN hM hB hN1 hM1).mono ?_
        rintro e w3 ⟨rfl, hb3⟩
        go_wp2
        go_ret
        exact ⟨ret_int (by rw [HC.out]; first | rw [if_pos H3.out] | rw [if_neg H3.out]), below_on hb3 (below_on hb2 hb1)⟩
    · have H2 : Hid (featsOk 72 ys = false) := by simpa [Hid] using h2
      have h2' := H2.out
      go_enter Try.func96, Try.ntmps96
      go_wp2_with fail
      with_reducible refine (l09Ok_any _ _ _ xs _ hr hn).mono ?_
      rintro e w1 ⟨rfl, hb1⟩
      go_wp2_with fail
      with_reducible refine (l09Ok_any _ _ _ ys _ (hr'.on hb1) hn').mono ?_
      rintro e w2 ⟨rfl, hb2⟩
      go_wp2
      go_ret
      exact ⟨ret_int (by unfold codeP seqs2; rw [H2.out, Bool.and_false]; rfl), below_on hb2 hb1⟩
  · have H1 : Hid (featsOk 72 xs = false) := by simpa [Hid] using h1
    have h1' := H1.out
    go_enter Try.func96, Try.ntmps96
    go_wp2_with fail
    with_reducible refine (l09Ok_any _ _ _ xs _ hr hn).mono ?_
    rintro e w1 ⟨rfl, hb1⟩
    go_wp2
    go_ret
    exact ⟨ret_int (by unfold codeP seqs2; rw [H1.out, Bool.false_and]; rfl), hb1⟩
set_option maxRecDepth 100000 in
set_option maxHeartbeats 2000000 in
theorem iPathCost_any (A A' A2 : Option Addr) (n c n' c' n2 c2' : Nat) (xs ys : List T3) (p : List T2) (w : World) (hr : RdL c3 3 w w.heap.size A n c xs) (hr' : RdL c3 3 w w.heap.size A' n' c' ys) (hp : RdL c2 2 w w.heap.size A2 n2 c2' p)
    (hn : n ≤ 1048576) (hn' : n' ≤ 1048576) (hn2 : n2 ≤ 1048576) (g : ∀ x ∈ p, ok2 x) :
    Calls Try.prog 52 #[.slice A n c, .slice A' n' c', .slice A2 n2 c2'] w fun e w' => e = .returned (.tuple #[.int .i64 (pcV xs ys p), .int .i64 (codeP xs ys p)]) ∧ Below w.heap.size w w' := by
  have hl := Lib.hid hr.len
  have hl' := Lib.hid hr'.len
  have hl2 := Lib.hid hp.len
  have G := Lib.hid g
  clear g
  generalize hc : codeP xs ys p = C
  have HC := Lib.hid hc
  by_cases h0 : C = 0
  · have hs : seqs2 xs ys = true := by
      rcases Bool.eq_false_or_eq_true (seqs2 xs ys) with h | h
      · exact h
      · exfalso; rw [← HC.out] at h0; unfold codeP at h0; rw [h] at h0; simp at h0
    have hI : iPath p xs.length ys.length 72 = true := by
      rcases Bool.eq_false_or_eq_true (iPath p xs.length ys.length 72) with h | h
      · exact h
      · exfalso; rw [← HC.out] at h0; unfold codeP at h0; rw [hs, h] at h0; simp at h0
    have Hs := Lib.hid (seqs2_yes hs)
    have HI := Lib.hid hI
    have HV : Hid (pcV xs ys p = pcF xs ys p) := by unfold Hid pcV; rw [hc, if_pos h0]
    have hle := featsOk_len Hs.out.1
    have hle' := featsOk_len Hs.out.2
    rw [hl.out] at hle
    rw [hl'.out] at hle'
    have hN1 := hle.1
    have hM1 := hle'.1
    subst h0
    clear hc hs hI hle hle'
    go_enter Try.func52, Try.ntmps52
    go_wp2_with fail
    with_reducible refine (pathable_any _ _ _ _ _ _ _ _ _ xs ys p _ hr hr' hp hn hn' hn2).mono ?_
    rintro e w1 ⟨rfl, hb1⟩
    rw [HC.out]
    have hr1 := hr.on hb1
    have hr1' := hr'.on hb1
    have hp1 := hp.on hb1
    clear hr hr' hp
    go_wp2
    go_loopw [9, 21] (fun s i wr => ∃ (k : Nat) (S : Int), k ≤ n2 ∧ i = .int .i64 k ∧ s = .int .i64 S ∧ 0 ≤ S ∧ S ≤ 1000 * k ∧ Below w1.heap.size w1 wr ∧ Hid (S = pcF xs ys (p.take k))) (fun _ i _ => n2 - (intOf i).toNat)
    case atStart => exact ⟨0, 0, by omega, rfl, rfl, by omega, by omega, Below.refl _ _, rfl⟩
    case round =>
      obtain ⟨k, S, hk, rfl, rfl, hS0, hS1, hb, HS⟩ := hrel
      by_cases hlt : k < n2
      · obtain ⟨b2, o2, u, v, rfl, hbl2, hx, p0, p1⟩ := (hp1.below hb).at2 hlt
        obtain ⟨⟨hu0, hu1⟩, ⟨hv0, hv1⟩⟩ := path_in G.out (N := xs.length) (M := ys.length) (band := 72) ⟨by rw [hl.out]; omega, by rw [hl.out]; omega⟩ ⟨by rw [hl'.out]; omega, by rw [hl'.out]; omega⟩ ⟨by omega, by omega⟩ (by rw [hl2.out]; exact hn2) (by rw [hl.out]; exact hN1) (by rw [hl'.out]; exact hM1) HI.out k hx.out
        rw [hl.out] at hu1
        rw [hl'.out] at hv1
        obtain ⟨i, rfl⟩ := Int.eq_ofNat_of_zero_le hu0
        obtain ⟨j, rfl⟩ := Int.eq_ofNat_of_zero_le hv0
        have hi : i < n := by omega
        have hj : j < n' := by omega
        obtain ⟨b, off, x, y, d, rfl, hbl, ha, q0, q1, q2⟩ := (hr1.below hb).at3 hi
        obtain ⟨b', off', x', y', d', rfl, hbl', hb', q0', q1', q2'⟩ := (hr1'.below hb).at3 hj
        have k1 : featB x y d = true := all_at (p := featOk) (x := (x, y, d)) (featsOk_all Hs.out.1) ha.out
        have k2 : featB x' y' d' = true := all_at (p := featOk) (x := (x', y', d')) (featsOk_all Hs.out.2) hb'.out
        have hcb := cost_bd (a := (x, y, d)) (b := (x', y', d')) k1 k2
        have hc0 := hcb.1
        have hc1 := hcb.2
        have HT : Hid (pcF xs ys (p.take (k + 1)) = S + costF (x, y, d) (x', y', d')) := by
          unfold Hid; rw [pc_step hx.out, ← HS.out]
          unfold nth3; rw [Int.toNat_natCast, Int.toNat_natCast, ha.out, hb'.out]; rfl
        have z1 := fun W => featCost_any x y d x' y' d' W k1 k2
        have Z1 := Lib.hid z1
        generalize hCC : costF (x, y, d) (x', y', d') = CC at *
        have hw3 : IntKind.i64.wrap (S + CC) = S + CC := IntWalk.i64_in _ (by omega)
        have hij : (0 : Int) ≤ (i : Int) := by omega
        have hjj : (0 : Int) ≤ (j : Int) := by omega
        have hkk : (0 : Int) ≤ (k : Int) := by omega
        have hsz := hb.size
        have hblr : b < wr.heap.size := by omega
        have hblr' : b' < wr.heap.size := by omega
        have hblr2 : b2 < wr.heap.size := by omega
        clear hr1 hr1' hp1 k1 k2 hcb z1 hCC hu0 hv0 hu1 hv1
        have Hw3 := Lib.hid hw3
        clear hw3
        go_wp2
        have hw3 := Hw3.out
        have hal : Below wr.heap.size wr (wr.alloc (.cells #[.int .i64 (i : Int), .int .i64 (j : Int)] 92)) := (Below.refl _ _).alloc (Nat.le_refl _) _
        have q0 := cell_on2 hal q0
        have q1 := cell_on2 hal q1
        have q2 := cell_on2 hal q2
        have q0' := cell_on2 hal q0'
        have q1' := cell_on2 hal q1'
        have q2' := cell_on2 hal q2'
        obtain ⟨c0, c1⟩ := Cell2.new wr (i : Int) (j : Int) 92
        have hbd : Below w1.heap.size w1 (wr.alloc (.cells #[.int .i64 (i : Int), .int .i64 (j : Int)] 92)).drew := (below_on hal hb).drew
        go_region_held3 (fun w' => w'.cell? ⟨wr.heap.size, 0, none⟩ = some (.int .i64 (i : Int)) ∧ w'.cell? ⟨wr.heap.size, 1, none⟩ = some (.int .i64 (j : Int)) ∧ w'.cell? ⟨b, off + i * 3, none⟩ = some (.int .i64 x) ∧ w'.cell? ⟨b, off + i * 3 + 1, none⟩ = some (.int .i64 y) ∧ w'.cell? ⟨b, off + i * 3 + 2, none⟩ = some (.int .i64 d) ∧ w'.cell? ⟨b', off' + j * 3, none⟩ = some (.int .i64 x') ∧ w'.cell? ⟨b', off' + j * 3 + 1, none⟩ = some (.int .i64 y') ∧ w'.cell? ⟨b', off' + j * 3 + 2, none⟩ = some (.int .i64 d') ∧ Below w1.heap.size w1 w')
          (first | exact ⟨c0, c1, q0, q1, q2, q0', q1', q2', hbd⟩ | go_keep | (go_split_ands; exact ⟨cell_on2 hb4 ‹_›, cell_on2 hb4 ‹_›, cell_on2 hb4 ‹_›, cell_on2 hb4 ‹_›, cell_on2 hb4 ‹_›, cell_on2 hb4 ‹_›, cell_on2 hb4 ‹_›, cell_on2 hb4 ‹_›, below_on hb4 ‹_›⟩))
          ((go_at_call 86; with_reducible refine (Z1.out _).mono ?_; rintro e w4 ⟨rfl, hb4⟩))
        go_split_ands
        clear hw3
        have hbe := ‹Below w1.heap.size w1 w4›
        go_wp2
        exact ⟨⟨k + 1, S + CC, by omega, by go_num, rfl, by omega, by omega, hbe, HT.out.symm⟩, by simp [intOf]; omega⟩
      · have hkn : k = n2 := by omega
        subst hkn
        clear hr1 hr1' hp1
        go_wp2
        go_ret2
        exact ⟨ret_ii (by rw [HV.out, HS.out, List.take_of_length_le (by have := hl2.out; omega)]) rfl, below_on hb hb1⟩
  · have HV : Hid (pcV xs ys p = 0) := by unfold Hid pcV; rw [hc, if_neg h0]
    have h0' : (C == 0) = false := by simp; exact h0
    have h0'' : (C != 0) = true := by simp; exact h0
    clear hc
    go_enter Try.func52, Try.ntmps52
    go_wp2_with fail
    with_reducible refine (pathable_any _ _ _ _ _ _ _ _ _ xs ys p _ hr hr' hp hn hn' hn2).mono ?_
    rintro e w1 ⟨rfl, hb1⟩
    rw [HC.out]
    go_wp2
    go_ret2
    exact ⟨ret_ii HV.out.symm rfl, hb1⟩
set_option maxRecDepth 100000 in
set_option maxHeartbeats 2000000 in
theorem sPathCost_any (A A' A2 : Option Addr) (n c n' c' n2 c2' : Nat) (xs ys : List T3) (p : List T2) (w : World) (hr : RdL c3 3 w w.heap.size A n c xs) (hr' : RdL c3 3 w w.heap.size A' n' c' ys) (hp : RdL c2 2 w w.heap.size A2 n2 c2' p)
    (hn : n ≤ 1048576) (hn' : n' ≤ 1048576) (hn2 : n2 ≤ 1048576) (g : ∀ x ∈ p, ok2 x) :
    Calls Try.prog 51 #[.slice A n c, .slice A' n' c', .slice A2 n2 c2'] w fun e w' => e = .returned (.tuple #[.int .i64 (pcV xs ys p), .int .i64 (codeP xs ys p)]) ∧ Below w.heap.size w w' := by
  have hl := Lib.hid hr.len
  have hl' := Lib.hid hr'.len
  have hl2 := Lib.hid hp.len
  have G := Lib.hid g
  clear g
  generalize hc : codeP xs ys p = C
  have HC := Lib.hid hc
  by_cases h0 : C = 0
  · have hs : seqs2 xs ys = true := by
      rcases Bool.eq_false_or_eq_true (seqs2 xs ys) with h | h
      · exact h
      · exfalso; rw [← HC.out] at h0; unfold codeP at h0; rw [h] at h0; simp at h0
    have hI : iPath p xs.length ys.length 72 = true := by
      rcases Bool.eq_false_or_eq_true (iPath p xs.length ys.length 72) with h | h
      · exact h
      · exfalso; rw [← HC.out] at h0; unfold codeP at h0; rw [hs, h] at h0; simp at h0
    have Hs := Lib.hid (seqs2_yes hs)
    have HI := Lib.hid hI
    have HV : Hid (pcV xs ys p = pcF xs ys p) := by unfold Hid pcV; rw [hc, if_pos h0]
    have hle := featsOk_len Hs.out.1
    have hle' := featsOk_len Hs.out.2
    rw [hl.out] at hle
    rw [hl'.out] at hle'
    have hN1 := hle.1
    have hM1 := hle'.1
    subst h0
    clear hc hs hI hle hle'
    go_enter Try.func51, Try.ntmps51
    go_wp2_with fail
    with_reducible refine (l09Fits_any _ _ _ _ _ _ _ _ _ xs ys p _ hr hr' hp hn hn' hn2 G.out).mono ?_
    rintro e w1 ⟨rfl, hb1⟩
    rw [HC.out]
    have hr1 := hr.on hb1
    have hr1' := hr'.on hb1
    have hp1 := hp.on hb1
    clear hr hr' hp
    go_wp2
    go_loopw [9, 10] (fun s i wr => ∃ (k : Nat) (S : Int), k ≤ n2 ∧ i = .int .i64 k ∧ s = .int .i64 S ∧ 0 ≤ S ∧ S ≤ 1000 * k ∧ Below w1.heap.size w1 wr ∧ Hid (S = pcF xs ys (p.take k))) (fun _ i _ => n2 - (intOf i).toNat)
    case atStart => exact ⟨0, 0, by omega, rfl, rfl, by omega, by omega, Below.refl _ _, rfl⟩
    case round =>
      obtain ⟨k, S, hk, rfl, rfl, hS0, hS1, hb, HS⟩ := hrel
      by_cases hlt : k < n2
      · obtain ⟨b2, o2, u, v, rfl, hbl2, hx, p0, p1⟩ := (hp1.below hb).at2 hlt
        obtain ⟨⟨hu0, hu1⟩, ⟨hv0, hv1⟩⟩ := path_in G.out (N := xs.length) (M := ys.length) (band := 72) ⟨by rw [hl.out]; omega, by rw [hl.out]; omega⟩ ⟨by rw [hl'.out]; omega, by rw [hl'.out]; omega⟩ ⟨by omega, by omega⟩ (by rw [hl2.out]; exact hn2) (by rw [hl.out]; exact hN1) (by rw [hl'.out]; exact hM1) HI.out k hx.out
        rw [hl.out] at hu1
        rw [hl'.out] at hv1
        obtain ⟨i, rfl⟩ := Int.eq_ofNat_of_zero_le hu0
        obtain ⟨j, rfl⟩ := Int.eq_ofNat_of_zero_le hv0
        have hi : i < n := by omega
        have hj : j < n' := by omega
        obtain ⟨b, off, x, y, d, rfl, hbl, ha, q0, q1, q2⟩ := (hr1.below hb).at3 hi
        obtain ⟨b', off', x', y', d', rfl, hbl', hb', q0', q1', q2'⟩ := (hr1'.below hb).at3 hj
        have k1 : featB x y d = true := all_at (p := featOk) (x := (x, y, d)) (featsOk_all Hs.out.1) ha.out
        have k2 : featB x' y' d' = true := all_at (p := featOk) (x := (x', y', d')) (featsOk_all Hs.out.2) hb'.out
        have hcb := cost_bd (a := (x, y, d)) (b := (x', y', d')) k1 k2
        have hc0 := hcb.1
        have hc1 := hcb.2
        have HT : Hid (pcF xs ys (p.take (k + 1)) = S + costF (x, y, d) (x', y', d')) := by
          unfold Hid; rw [pc_step hx.out, ← HS.out]
          unfold nth3; rw [Int.toNat_natCast, Int.toNat_natCast, ha.out, hb'.out]; rfl
        have z1 := fun W => l09Cost_any x y d x' y' d' W k1 k2
        have Z1 := Lib.hid z1
        generalize hCC : costF (x, y, d) (x', y', d') = CC at *
        have hw3 : IntKind.i64.wrap (S + CC) = S + CC := IntWalk.i64_in _ (by omega)
        have hij : (0 : Int) ≤ (i : Int) := by omega
        have hjj : (0 : Int) ≤ (j : Int) := by omega
        have hkk : (0 : Int) ≤ (k : Int) := by omega
        have hsz := hb.size
        have hblr : b < wr.heap.size := by omega
        have hblr' : b' < wr.heap.size := by omega
        have hblr2 : b2 < wr.heap.size := by omega
        clear hr1 hr1' hp1 k1 k2 hcb z1 hCC hu0 hv0 hu1 hv1
        have Hw3 := Lib.hid hw3
        clear hw3
        go_wp2
        have hw3 := Hw3.out
        have hbd : Below w1.heap.size w1 wr.drew := hb.drew
        go_region_held3 (fun w' => w'.cell? ⟨b2, o2 + k * 2, none⟩ = some (.int .i64 (i : Int)) ∧ w'.cell? ⟨b2, o2 + k * 2 + 1, none⟩ = some (.int .i64 (j : Int)) ∧ w'.cell? ⟨b, off + i * 3, none⟩ = some (.int .i64 x) ∧ w'.cell? ⟨b, off + i * 3 + 1, none⟩ = some (.int .i64 y) ∧ w'.cell? ⟨b, off + i * 3 + 2, none⟩ = some (.int .i64 d) ∧ w'.cell? ⟨b', off' + j * 3, none⟩ = some (.int .i64 x') ∧ w'.cell? ⟨b', off' + j * 3 + 1, none⟩ = some (.int .i64 y') ∧ w'.cell? ⟨b', off' + j * 3 + 2, none⟩ = some (.int .i64 d') ∧ Below w1.heap.size w1 w')
          (first | exact ⟨p0, p1, q0, q1, q2, q0', q1', q2', hbd⟩ | go_keep | (go_split_ands; exact ⟨cell_on2 hb4 ‹_›, cell_on2 hb4 ‹_›, cell_on2 hb4 ‹_›, cell_on2 hb4 ‹_›, cell_on2 hb4 ‹_›, cell_on2 hb4 ‹_›, cell_on2 hb4 ‹_›, cell_on2 hb4 ‹_›, below_on hb4 ‹_›⟩))
          ((go_at_call 97; with_reducible refine (Z1.out _).mono ?_; rintro e w4 ⟨rfl, hb4⟩))
        go_split_ands
        clear hw3
        have hbe := ‹Below w1.heap.size w1 w4›
        go_wp2
        exact ⟨⟨k + 1, S + CC, by omega, by go_num, rfl, by omega, by omega, hbe, HT.out.symm⟩, by simp [intOf]; omega⟩
      · have hkn : k = n2 := by omega
        subst hkn
        clear hr1 hr1' hp1
        go_wp2
        go_ret2
        exact ⟨ret_ii (by rw [HV.out, HS.out, List.take_of_length_le (by have := hl2.out; omega)]) rfl, below_on hb hb1⟩
  · have HV : Hid (pcV xs ys p = 0) := by unfold Hid pcV; rw [hc, if_neg h0]
    have h0' : (C == 0) = false := by simp; exact h0
    have h0'' : (C != 0) = true := by simp; exact h0
    clear hc
    go_enter Try.func51, Try.ntmps51
    go_wp2_with fail
    with_reducible refine (l09Fits_any _ _ _ _ _ _ _ _ _ xs ys p _ hr hr' hp hn hn' hn2 G.out).mono ?_
    rintro e w1 ⟨rfl, hb1⟩
    rw [HC.out]
    go_wp2
    go_ret2
    exact ⟨ret_ii HV.out.symm rfl, hb1⟩
end Go.Proofs.Ytpeganfbmffjbaa
