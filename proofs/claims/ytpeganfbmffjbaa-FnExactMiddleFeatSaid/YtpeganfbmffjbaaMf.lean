/- Contracts of MiddleFeat. -/
import Derived.Test.YtpeganfbmffjbaaMk
import Derived.Test.YtpeganfbmffjbaaNd
import Derived.Test.YtpeganfbmffjbaaFlSpot
namespace Go.Proofs.Ytpeganfbmffjbaa
open Go.ChangeShapes Go.WideShapes Go.ChangeAt Go.RowKit
def sumX (xs : List T3) : Int := xs.foldl (fun s f => s + f.1) 0
def sumY (xs : List T3) : Int := xs.foldl (fun s f => s + f.2.1) 0
theorem sumX_step {xs : List T3} {k : Nat} {x y d : Int} (h : xs[k]? = some (x, y, d)) : sumX (xs.take k) + x = sumX (xs.take (k + 1)) := (fold_step (f := fun (s : Int) (f : T3) => s + f.1) h).symm
theorem sumY_step {xs : List T3} {k : Nat} {x y d : Int} (h : xs[k]? = some (x, y, d)) : sumY (xs.take k) + y = sumY (xs.take (k + 1)) := (fold_step (f := fun (s : Int) (f : T3) => s + f.2.1) h).symm
def midF (xs : List T3) : T2 := if featsOk 384 xs = true then (nearD (sumX xs) xs.length, nearD (sumY xs) xs.length) else (0, 0)
theorem featsOk_len' {m : Int} {xs : List T3} (h : featsOk m xs = true) : 1 ≤ (xs.length : Int) ∧ (xs.length : Int) ≤ m := inB_iff.1 (Bool.and_eq_true_iff.1 h).2
set_option maxHeartbeats 1000000 in
theorem sMiddle_any (A : Option Addr) (n c : Nat) (xs : List T3) (w : World) (hr : RdL c3 3 w w.heap.size A n c xs) (hn : n ≤ 1048576) :
    Calls Try.prog 16 #[.slice A n c] w fun e w' => e = .returned (.tuple #[.agg #[.int .i64 (midF xs).1, .int .i64 (midF xs).2], .int .i64 (okE (featsOk 384 xs))]) ∧ Below w.heap.size w w' := by
  have hl := Lib.hid hr.len
  have hra : ∀ o, RdL c3 3 (w.alloc o) (w.alloc o).heap.size A n c xs := fun o => hr.on ((Below.refl _ _).alloc (Nat.le_refl _) _)
  have hba : ∀ o, Below w.heap.size w (w.alloc o) := fun o => (Below.refl _ _).alloc (Nat.le_refl _) _
  have B0 := Cell2.new w 0 0 25
  by_cases hok : featsOk 384 xs = true
  · have Hok := Lib.hid hok
    have hle := featsOk_len' hok
    rw [hr.len] at hle
    go_enter Try.func16, Try.ntmps16
    go_wp2_with (go_at_call 64; with_reducible refine (l08Ok_any _ _ _ _ _ (hra _) hn).mono ?_; rintro e w1 ⟨rfl, hb1⟩)
    have hr1 := (hra _).on hb1
    obtain ⟨a0, a1⟩ := B0.on hb1
    have hb0 := below_on hb1 (hba _)
    have hlt1 : w.heap.size < w1.heap.size := World.block_lt_of_cell? (w := w1) (a := ⟨w.heap.size, 0, none⟩) a0
    have hf0 : w1.frozen? ⟨w.heap.size, 0, none⟩ = false := by have := hb1.frozen (p := ⟨w.heap.size, 0, none⟩) (by simp); rw [this]; go_simp
    have hf1 : w1.frozen? ⟨w.heap.size, 1, none⟩ = false := by have := hb1.frozen (p := ⟨w.heap.size, 1, none⟩) (by simp); rw [this]; go_simp
    clear hr hok hra hba B0 hb1
    go_loop [4, 5, 6] (fun p q i => ∃ (k : Nat) (sx sy : Int), k ≤ n ∧ i = .int .i64 k ∧ p = .int .i64 sx ∧ q = .int .i64 sy ∧ 0 ≤ sx ∧ sx ≤ 255 * k ∧ 0 ≤ sy ∧ sy ≤ 255 * k ∧ Hid (sx = sumX (xs.take k) ∧ sy = sumY (xs.take k))) (fun _ _ i => n - (intOf i).toNat)
    case atStart => exact ⟨0, 0, 0, by omega, rfl, rfl, rfl, by omega, by omega, by omega, by omega, rfl, rfl⟩
    case round =>
      obtain ⟨k, sx, sy, hk, rfl, rfl, rfl, s0, s1, t0, t1, HS⟩ := hrel
      by_cases hlt : k < n
      · obtain ⟨b, off, x, y, d, rfl, hbl, hx, q0, q1, q2⟩ := hr1.at3 hlt
        obtain ⟨⟨hx0, hx1⟩, ⟨hy0, hy1⟩, ⟨hd0, hd1⟩⟩ := featB_iff.1 (show featB x y d = true from all_at (p := featOk) (x := (x, y, d)) (Bool.and_eq_true_iff.1 Hok.out).1 hx.out)
        clear hr1
        go_wp2
        exact ⟨⟨k + 1, sx + x, sy + y, by omega, by go_num, rfl, rfl, by omega, by omega, by omega, by omega, by rw [HS.out.1]; exact sumX_step hx.out, by rw [HS.out.2]; exact sumY_step hx.out⟩, by simp [intOf]; omega⟩
      · have hkn : k = n := by omega
        subst hkn
        clear hr1
        go_wp2_with fail
        with_reducible refine (l05Near_any _ _ _ (by omega) (by omega) (by omega) (by omega)).mono ?_
        rintro e w' ⟨rfl, rfl⟩
        go_wp2_with fail
        with_reducible refine (l05Near_any _ _ _ (by omega) (by omega) (by omega) (by omega)).mono ?_
        rintro e w' ⟨rfl, rfl⟩
        go_wp2
        have e0 : Hid ((midF xs).1 = nearD sx k ∧ (midF xs).2 = nearD sy k) := by
          have e := HS.out
          rw [List.take_of_length_le (by have := hl.out; omega)] at e
          unfold midF; rw [if_pos Hok.out, hl.out, e.1, e.2]; exact ⟨rfl, rfl⟩
        have e2 : okE (featsOk 384 xs) = 0 := by unfold okE; rw [if_pos Hok.out]
        rw [e2, e0.out.1, e0.out.2]
        exact bodyPost_ret (v := .tuple #[.agg #[.int .i64 (nearD sx k), .int .i64 (nearD sy k)], .int .i64 0]) (by simp [results, Try.results16, go_sem, a0, a1]) rfl ⟨rfl, (by repeat (first | exact Below.refl _ _ | assumption | refine Below.drew ?_ | refine below_drewN ?_ _ | refine Below.alloc ?_ (by first | omega | (simp <;> omega)) _ | refine Below.setCell ?_ (by first | omega | (simp <;> omega)) _))⟩
  · have Hok : Hid (featsOk 384 xs = false) := by simpa [Hid] using hok
    have hok' := Hok.out
    go_enter Try.func16, Try.ntmps16
    go_wp2_with fail
    with_reducible refine (l08Ok_any _ _ _ _ _ (hra _) hn).mono ?_
    rintro e w1 ⟨rfl, hb1⟩
    obtain ⟨a0, a1⟩ := B0.on hb1
    have hf0 : w1.frozen? ⟨w.heap.size, 0, none⟩ = false := by have := hb1.frozen (p := ⟨w.heap.size, 0, none⟩) (by simp); rw [this]; go_simp
    have hf1 : w1.frozen? ⟨w.heap.size, 1, none⟩ = false := by have := hb1.frozen (p := ⟨w.heap.size, 1, none⟩) (by simp); rw [this]; go_simp
    have hb0 := below_on hb1 (hba _)
    clear hra hba
    go_wp2
    have e0 : midF xs = (0, 0) := by unfold midF; rw [if_neg (by rw [Hok.out]; decide)]
    have e2 : okE (featsOk 384 xs) = 1 := by unfold okE; rw [if_neg (by rw [Hok.out]; decide)]
    rw [e2, e0]
    exact bodyPost_ret (v := .tuple #[.agg #[.int .i64 0, .int .i64 0], .int .i64 1]) (by simp [results, Try.results16, go_sem, a0, a1]) rfl ⟨rfl, (by repeat (first | exact Below.refl _ _ | assumption | refine Below.drew ?_ | refine below_drewN ?_ _ | refine Below.alloc ?_ (by first | omega | (simp <;> omega)) _ | refine Below.setCell ?_ (by first | omega | (simp <;> omega)) _))⟩
set_option maxHeartbeats 1000000 in
theorem iMiddle_any (A : Option Addr) (n c : Nat) (xs : List T3) (w : World) (hr : RdL c3 3 w w.heap.size A n c xs) (hn : n ≤ 1048576) :
    Calls Try.prog 18 #[.slice A n c] w fun e w' => e = .returned (.tuple #[.agg #[.int .i64 (midF xs).1, .int .i64 (midF xs).2], .int .i64 (okE (featsOk 384 xs))]) ∧ Below w.heap.size w w' := by
  have hl := Lib.hid hr.len
  have hra : ∀ o, RdL c3 3 (w.alloc o) (w.alloc o).heap.size A n c xs := fun o => hr.on ((Below.refl _ _).alloc (Nat.le_refl _) _)
  have hba : ∀ o, Below w.heap.size w (w.alloc o) := fun o => (Below.refl _ _).alloc (Nat.le_refl _) _
  have B0 := Cell2.new w 0 0 25
  by_cases hok : featsOk 384 xs = true
  · have Hok := Lib.hid hok
    have hle := featsOk_len' hok
    rw [hr.len] at hle
    go_enter Try.func18, Try.ntmps18
    go_wp2_with (go_at_call 67; with_reducible refine (iValidFeats_any _ _ _ _ _ (hra _) hn).mono ?_; rintro e w1 ⟨rfl, hb1⟩)
    have hr1 := (hra _).on hb1
    obtain ⟨a0, a1⟩ := B0.on hb1
    have hb0 := below_on hb1 (hba _)
    have hlt1 : w.heap.size < w1.heap.size := World.block_lt_of_cell? (w := w1) (a := ⟨w.heap.size, 0, none⟩) a0
    have hf0 : w1.frozen? ⟨w.heap.size, 0, none⟩ = false := by have := hb1.frozen (p := ⟨w.heap.size, 0, none⟩) (by simp); rw [this]; go_simp
    have hf1 : w1.frozen? ⟨w.heap.size, 1, none⟩ = false := by have := hb1.frozen (p := ⟨w.heap.size, 1, none⟩) (by simp); rw [this]; go_simp
    clear hr hok hra hba B0 hb1
    go_loopw [4, 5, 17] (fun p q i wr => ∃ (k : Nat) (sx sy : Int), Below w1.heap.size w1 wr ∧ k ≤ n ∧ i = .int .i64 k ∧ p = .int .i64 sx ∧ q = .int .i64 sy ∧ 0 ≤ sx ∧ sx ≤ 255 * k ∧ 0 ≤ sy ∧ sy ≤ 255 * k ∧ Hid (sx = sumX (xs.take k) ∧ sy = sumY (xs.take k))) (fun _ _ i _ => n - (intOf i).toNat)
    case atStart => exact ⟨0, 0, 0, Below.refl _ _, by omega, rfl, rfl, rfl, by omega, by omega, by omega, by omega, rfl, rfl⟩
    case round =>
      obtain ⟨k, sx, sy, hb, hk, rfl, rfl, rfl, s0, s1, t0, t1, HS⟩ := hrel
      by_cases hlt : k < n
      · obtain ⟨b, off, x, y, d, rfl, hbl, hx, q0, q1, q2⟩ := (hr1.below hb).at3 hlt
        have hsz := hb.size
        obtain ⟨⟨hx0, hx1⟩, ⟨hy0, hy1⟩, ⟨hd0, hd1⟩⟩ := featB_iff.1 (show featB x y d = true from all_at (p := featOk) (x := (x, y, d)) (Bool.and_eq_true_iff.1 Hok.out).1 hx.out)
        clear hr1
        go_wp2
        exact ⟨⟨k + 1, sx + x, sy + y, (by repeat (first | exact Below.refl _ _ | assumption | refine Below.drew ?_ | refine below_drewN ?_ _ | refine Below.alloc ?_ (by first | omega | (simp <;> omega)) _ | refine Below.setCell ?_ (by first | omega | (simp <;> omega)) _)), by omega, by go_num, rfl, rfl, by omega, by omega, by omega, by omega, by rw [HS.out.1]; exact sumX_step hx.out, by rw [HS.out.2]; exact sumY_step hx.out⟩, by simp [intOf]; omega⟩
      · have hkn : k = n := by omega
        subst hkn
        clear hr1
        have hsz := hb.size
        have b0 := (hb.cell (p := ⟨w.heap.size, 0, none⟩) hlt1).trans a0
        have b1 := (hb.cell (p := ⟨w.heap.size, 1, none⟩) hlt1).trans a1
        have hg0 := (hb.frozen (p := ⟨w.heap.size, 0, none⟩) hlt1).trans hf0
        have hg1 := (hb.frozen (p := ⟨w.heap.size, 1, none⟩) hlt1).trans hf1
        have hbw := below_on hb hb0
        clear a0 a1 hf0 hf1 hb0
        go_wp2_with fail
        with_reducible refine (nearestDiv_any _ _ _ (by omega) (by omega) (by omega) (by omega)).mono ?_
        rintro e w' ⟨rfl, rfl⟩
        go_wp2_with fail
        with_reducible refine (nearestDiv_any _ _ _ (by omega) (by omega) (by omega) (by omega)).mono ?_
        rintro e w' ⟨rfl, rfl⟩
        go_wp2
        have e0 : Hid ((midF xs).1 = nearD sx k ∧ (midF xs).2 = nearD sy k) := by
          have e := HS.out
          rw [List.take_of_length_le (by have := hl.out; omega)] at e
          unfold midF; rw [if_pos Hok.out, hl.out, e.1, e.2]; exact ⟨rfl, rfl⟩
        have e2 : okE (featsOk 384 xs) = 0 := by unfold okE; rw [if_pos Hok.out]
        rw [e2, e0.out.1, e0.out.2]
        exact bodyPost_ret (v := .tuple #[.agg #[.int .i64 (nearD sx k), .int .i64 (nearD sy k)], .int .i64 0]) (by simp [results, Try.results18, go_sem, b0, b1]) rfl ⟨rfl, (by repeat (first | exact Below.refl _ _ | assumption | refine Below.drew ?_ | refine below_drewN ?_ _ | refine Below.alloc ?_ (by first | omega | (simp <;> omega)) _ | refine Below.setCell ?_ (by first | omega | (simp <;> omega)) _))⟩
  · have Hok : Hid (featsOk 384 xs = false) := by simpa [Hid] using hok
    have hok' := Hok.out
    go_enter Try.func18, Try.ntmps18
    go_wp2_with fail
    with_reducible refine (iValidFeats_any _ _ _ _ _ (hra _) hn).mono ?_
    rintro e w1 ⟨rfl, hb1⟩
    obtain ⟨a0, a1⟩ := B0.on hb1
    have hf0 : w1.frozen? ⟨w.heap.size, 0, none⟩ = false := by have := hb1.frozen (p := ⟨w.heap.size, 0, none⟩) (by simp); rw [this]; go_simp
    have hf1 : w1.frozen? ⟨w.heap.size, 1, none⟩ = false := by have := hb1.frozen (p := ⟨w.heap.size, 1, none⟩) (by simp); rw [this]; go_simp
    have hb0 := below_on hb1 (hba _)
    clear hra hba
    go_wp2
    have e0 : midF xs = (0, 0) := by unfold midF; rw [if_neg (by rw [Hok.out]; decide)]
    have e2 : okE (featsOk 384 xs) = 1 := by unfold okE; rw [if_neg (by rw [Hok.out]; decide)]
    rw [e2, e0]
    exact bodyPost_ret (v := .tuple #[.agg #[.int .i64 0, .int .i64 0], .int .i64 1]) (by simp [results, Try.results18, go_sem, a0, a1]) rfl ⟨rfl, (by repeat (first | exact Below.refl _ _ | assumption | refine Below.drew ?_ | refine below_drewN ?_ _ | refine Below.alloc ?_ (by first | omega | (simp <;> omega)) _ | refine Below.setCell ?_ (by first | omega | (simp <;> omega)) _))⟩
end Go.Proofs.Ytpeganfbmffjbaa
