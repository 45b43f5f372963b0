/- Contracts of PathCost, and of the codes of two sequences and a path. -/
import Derived.Test.YtlodiniohfhnpaaMk
import Derived.Test.YtlodiniohfhnpaaPt
import Derived.Test.YtlodiniohfhnpaaEn
import Derived.Deep.RegionHeld3
namespace Go.Proofs.Ytlodiniohfhnpaa
open Go.ChangeShapes Go.WideShapes Go.ChangeAt Go.RowKit
def codeP (a b : List T3) (p : List T2) : Int := if seqs2 a b = true then (if iPath p a.length b.length 72 = true then 0 else 2) else 1
def nth3 (a : List T3) (i : Int) : T3 := (a[i.toNat]?).getD (0, 0, 0)
def pcStep (a b : List T3) (s : Int) (p : T2) : Int := s + costF (nth3 a p.1) (nth3 b p.2)
def pcF (a b : List T3) (p : List T2) : Int := p.foldl (pcStep a b) 0
def pcV (a b : List T3) (p : List T2) : Int := if codeP a b p = 0 then pcF a b p else 0
theorem pc_step {a b : List T3} {p : List T2} {k : Nat} {x y : Int} (h : p[k]? = some (x, y)) : pcF a b (p.take (k + 1)) = pcF a b (p.take k) + costF (nth3 a x) (nth3 b y) := by
  unfold pcF; rw [fold_step h]; simp only [pcStep]
theorem seqs2_yes {a b : List T3} (h : seqs2 a b = true) : featsOk 72 a = true ∧ featsOk 72 b = true := Bool.and_eq_true_iff.1 h
/-- The pairs of a path lie within the two sequences. -/
theorem path_in {xs : List T2} {N M band : Int} (g : ∀ x ∈ xs, ok2 x) (hN : I64 N) (hM : I64 M) (hB : I64 band) (hn : xs.length ≤ 1048576) (h1 : 1 ≤ N) (h2 : 1 ≤ M) (h : iPath xs N M band = true) (k : Nat) {x y : Int} (hx : xs[k]? = some (x, y)) :
    (0 ≤ x ∧ x < N) ∧ (0 ≤ y ∧ y < M) := by
  have hs := path_same (band := band) g hN hM hB hn
  rw [decide_eq_true h1, decide_eq_true h2, Bool.true_and, Bool.true_and, h] at hs
  unfold sPath at hs
  have hk : k < xs.length := (List.getElem?_eq_some_iff.1 hx).1
  have hc := range_at (Bool.and_eq_true_iff.1 hs).2 hk
  unfold sChk sIn at hc
  rw [at0_of hx] at hc
  simp only [Bool.and_eq_true, inB_iff] at hc
  have w1 : wrap64 (N - 1) = N - 1 := by obtain ⟨_, _⟩ := hN; unfold wrap64; omega
  have w2 : wrap64 (M - 1) = M - 1 := by obtain ⟨_, _⟩ := hM; unfold wrap64; omega
  rw [w1, w2] at hc
  omega
set_option maxHeartbeats 1000000 in
theorem pathable_any (A A' A2 : Option Addr) (n c n' c' n2 c2' : Nat) (xs ys : List T3) (p : List T2) (w : World) (hr : RdL c3 3 w w.heap.size A n c xs) (hr' : RdL c3 3 w w.heap.size A' n' c' ys) (hp : RdL c2 2 w w.heap.size A2 n2 c2' p)
    (hn : n ≤ 1048576) (hn' : n' ≤ 1048576) (hn2 : n2 ≤ 1048576) :
    Calls Try.prog 100 #[.slice A n c, .slice A' n' c', .slice A2 n2 c2'] w fun e w' => e = .returned (.int .i64 (codeP xs ys p)) ∧ Below w.heap.size w w' := by
  have hl := Lib.hid hr.len
  have hl' := Lib.hid hr'.len
  by_cases h1 : featsOk 72 xs = true
  · have H1 := Lib.hid h1
    by_cases h2 : featsOk 72 ys = true
    · have H2 := Lib.hid h2
      have HC : Hid (codeP xs ys p = if iPath p n n' 72 = true then 0 else 2) := by
        unfold Hid codeP seqs2; rw [H1.out, H2.out, hl.out, hl'.out]; rfl
      by_cases h3 : iPath p n n' 72 = true
      all_goals
        have H3 := Lib.hid h3
        go_enter Try.func100, Try.ntmps100
        go_wp2_with fail
        with_reducible refine (iValidSeq_any _ _ _ xs _ hr hn).mono ?_
        rintro e w1 ⟨rfl, hb1⟩
        go_wp2_with fail
        with_reducible refine (iValidSeq_any _ _ _ ys _ (hr'.on hb1) hn').mono ?_
        rintro e w2 ⟨rfl, hb2⟩
        go_wp2_with fail
        with_reducible refine (iPath_any _ _ _ p _ _ _ _ ((hp.on hb1).on hb2) hn2).mono ?_
        rintro e w3 ⟨rfl, hb3⟩
        go_wp2
        go_ret
        exact ⟨ret_int (by rw [HC.out]; first | rw [if_pos H3.out] | rw [if_neg H3.out]), below_on hb3 (below_on hb2 hb1)⟩
    · have H2 : Hid (featsOk 72 ys = false) := by simpa [Hid] using h2
      have h2' := H2.out
      go_enter Try.func100, Try.ntmps100
      go_wp2_with fail
      with_reducible refine (iValidSeq_any _ _ _ xs _ hr hn).mono ?_
      rintro e w1 ⟨rfl, hb1⟩
      go_wp2_with fail
      with_reducible refine (iValidSeq_any _ _ _ ys _ (hr'.on hb1) hn').mono ?_
      rintro e w2 ⟨rfl, hb2⟩
      go_wp2
      go_ret
      exact ⟨ret_int (by unfold codeP seqs2; rw [H2.out, Bool.and_false]; rfl), below_on hb2 hb1⟩
  · have H1 : Hid (featsOk 72 xs = false) := by simpa [Hid] using h1
    have h1' := H1.out
    go_enter Try.func100, Try.ntmps100
    go_wp2_with fail
    with_reducible refine (iValidSeq_any _ _ _ xs _ hr hn).mono ?_
    rintro e w1 ⟨rfl, hb1⟩
    go_wp2
    go_ret
    exact ⟨ret_int (by unfold codeP seqs2; rw [H1.out, Bool.false_and]; rfl), hb1⟩
set_option maxHeartbeats 1000000 in
theorem l09Fits_any (A A' A2 : Option Addr) (n c n' c' n2 c2' : Nat) (xs ys : List T3) (p : List T2) (w : World) (hr : RdL c3 3 w w.heap.size A n c xs) (hr' : RdL c3 3 w w.heap.size A' n' c' ys) (hp : RdL c2 2 w w.heap.size A2 n2 c2' p)
    (hn : n ≤ 1048576) (hn' : n' ≤ 1048576) (hn2 : n2 ≤ 1048576) (g : ∀ x ∈ p, ok2 x) :
    Calls Try.prog 97 #[.slice A n c, .slice A' n' c', .slice A2 n2 c2'] w fun e w' => e = .returned (.int .i64 (codeP xs ys p)) ∧ Below w.heap.size w w' := by
  have hl := Lib.hid hr.len
  have hl' := Lib.hid hr'.len
  have G := Lib.hid g
  clear g
  by_cases h1 : featsOk 72 xs = true
  · have H1 := Lib.hid h1
    by_cases h2 : featsOk 72 ys = true
    · have H2 := Lib.hid h2
      have hle := featsOk_len h1
      have hle' := featsOk_len h2
      rw [hl.out] at hle
      rw [hl'.out] at hle'
      have hN : I64 (n : Int) := ⟨by omega, by omega⟩
      have hM : I64 (n' : Int) := ⟨by omega, by omega⟩
      have hB : I64 72 := ⟨by omega, by omega⟩
      have hN1 := hle.1
      have hM1 := hle'.1
      clear hle hle'
      have HC : Hid (codeP xs ys p = if iPath p n n' 72 = true then 0 else 2) := by
        unfold Hid codeP seqs2; rw [H1.out, H2.out, hl.out, hl'.out]; rfl
      by_cases h3 : iPath p n n' 72 = true
      all_goals
        have H3 := Lib.hid h3
        go_enter Try.func97, Try.ntmps97
        go_wp2_with fail
        with_reducible refine (l09Ok_any _ _ _ xs _ hr hn).mono ?_
        rintro e w1 ⟨rfl, hb1⟩
        go_wp2_with fail
        with_reducible refine (l09Ok_any _ _ _ ys _ (hr'.on hb1) hn').mono ?_
        rintro e w2 ⟨rfl, hb2⟩
        go_wp2_with fail
        with_reducible refine (l09Path_in _ _ _ p _ _ _ _ ((hp.on hb1).on hb2) hn2 G.out hN hM hB hN1 hM1).mono ?_
        rintro e w3 ⟨rfl, hb3⟩
        go_wp2
        go_ret
        exact ⟨ret_int (by rw [HC.out]; first | rw [if_pos H3.out] | rw [if_neg H3.out]), below_on hb3 (below_on hb2 hb1)⟩
    · have H2 : Hid (featsOk 72 ys = false) := by simpa [Hid] using h2
      have h2' := H2.out
      go_enter Try.func97, Try.ntmps97
      go_wp2_with fail
      with_reducible refine (l09Ok_any _ _ _ xs _ hr hn).mono ?_
      rintro e w1 ⟨rfl, hb1⟩
      go_wp2_with fail
      with_reducible refine (l09Ok_any _ _ _ ys _ (hr'.on hb1) hn').mono ?_
      rintro e w2 ⟨rfl, hb2⟩
      go_wp2
      go_ret
      exact ⟨ret_int (by unfold codeP seqs2; rw [H2.out, Bool.and_false]; rfl), below_on hb2 hb1⟩
  · have H1 : Hid (featsOk 72 xs = false) := by simpa [Hid] using h1
    have h1' := H1.out
    go_enter Try.func97, Try.ntmps97
    go_wp2_with fail
    with_reducible refine (l09Ok_any _ _ _ xs _ hr hn).mono ?_
    rintro e w1 ⟨rfl, hb1⟩
    go_wp2
    go_ret
    exact ⟨ret_int (by unfold codeP seqs2; rw [H1.out, Bool.false_and]; rfl), hb1⟩
end Go.Proofs.Ytlodiniohfhnpaa
