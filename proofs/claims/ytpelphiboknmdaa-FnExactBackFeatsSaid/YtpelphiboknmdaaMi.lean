/- Contracts of MirrorFeats and BackFeats. -/
import Derived.Test.YtpelphiboknmdaaMk
namespace Go.Proofs.Ytpelphiboknmdaa
open Go.ChangeShapes Go.WideShapes Go.ChangeAt Go.RowKit
theorem rev_step {α : Type} {xs : List α} {k : Nat} {x : α} (h : xs[k]? = some x) : (xs.drop k).reverse = (xs.drop (k + 1)).reverse ++ [x] := by
  rw [drop_of h, List.reverse_cons]
def mir1 (f : T3) : T3 := (255 - f.1, f.2.1, (4 - f.2.2) % 8)
def back1 (f : T3) : T3 := (f.1, f.2.1, (f.2.2 + 4) % 8)
def mirF (xs : List T3) : List T3 := okL (featsOk 384 xs) (xs.map mir1)
def backF (xs : List T3) : List T3 := okL (featsOk 384 xs) (xs.reverse.map back1)
def err384 (xs : List T3) : Int := okE (featsOk 384 xs)
set_option maxHeartbeats 1000000 in
theorem sMirror_any (A : Option Addr) (n c : Nat) (xs : List T3) (w : World) (hr : RdL c3 3 w w.heap.size A n c xs) (hn : n ≤ 1048576) :
    Calls Try.prog 47 #[.slice A n c] w fun e w' => ∃ A' n' c', e = .returned (.tuple #[.slice A' n' c', .int .i64 (err384 xs)]) ∧ w'.ownsRow w.heap.size 25 3 (.slice A' n' c') n' ((mirF xs).flatMap c3) ∧
      (mirF xs).length = n' ∧ n' ≤ 1048576 ∧ Below w.heap.size w w' := by
  obtain ⟨i0, hi, hz0, hz1, hz2⟩ := info_parts Try.feInfo
  have hl := Lib.hid hr.len
  by_cases hok : featsOk 384 xs = true
  · have Hok := Lib.hid hok
    go_enter Try.func47, Try.ntmps47
    go_wp2_with (go_at_call 63; with_reducible refine (l08Ok_any _ _ _ _ _ hr hn).mono ?_; rintro e w1 ⟨rfl, hb1⟩)
    have hr1 := hr.on hb1
    clear hr hok
    go_loopw [4, 5] (fun v i wr => ∃ (k c' : Nat) (A' : Option Addr), k ≤ n ∧ i = .int .i64 k ∧ v = .slice A' k c' ∧ Below w1.heap.size w1 wr ∧ wr.ownsRow w1.heap.size 25 3 (.slice A' k c') k (((xs.take k).map mir1).flatMap c3)) (fun _ i _ => n - (intOf i).toNat)
    case atStart => exact ⟨0, 0, _, by omega, rfl, rfl, (by repeat (first | exact Below.refl _ _ | assumption | refine Below.drew ?_ | refine below_drewN ?_ _ | refine Below.alloc ?_ (by simp <;> omega) _ | refine Below.setCell ?_ (by simp <;> omega) _)), by simpa using World.ownsRow_lit (base := w1.heap.size) (e := 25) (size := 3) w1 #[] 0 (Nat.le_refl _) (by simp [maxLen]) rfl⟩
    case round =>
      obtain ⟨k, c', A', hk, rfl, rfl, hb, hw⟩ := hrel
      by_cases hlt : k < n
      · obtain ⟨b, off, x, y, d, rfl, hbl, hx, q0, q1, q2⟩ := (hr1.below hb).at3 hlt
        obtain ⟨⟨hx0, hx1⟩, ⟨hy0, hy1⟩, ⟨hd0, hd1⟩⟩ := featB_iff.1 (show featB x y d = true from all_at (p := featOk) (x := (x, y, d)) (Bool.and_eq_true_iff.1 Hok.out).1 hx.out)
        clear hr1
        go_wp2_with (at_builtin; with_reducible refine app_one _ c3_len one3 rfl (.tmp 21) (.tmp 33) 34 rfl w1.heap.size 25 i0 _ Try.underlying34 hi hz0 hz1 hz2 rfl (by decide) (by decide) A' k c' _ rfl ((hw.alloc _).alloc _) (wr.heap.size + 1) 1 (mir1 (x, y, d)) rfl ?_ (by omega) ?_ ?_)
        · exact news3 (Cell3.two wr x y d (255 - x) y ((4 - d) % 8) 25 25).2
        · have := hb.size; simp; omega
        · intro A2 c2 w2 hw2 hbw2
          have hb2 : Below w1.heap.size w1 w2 := ((hb.alloc hb.size _).alloc (by have := hb.size; simp; omega) _).trans hbw2
          clear hw hb hbw2
          go_wp2
          refine ⟨⟨k + 1, c2, A2, by omega, by go_num, rfl, hb2, ?_⟩, by simp [intOf]; omega⟩
          simpa [map_step hx.out, flat_snoc, List.map_take] using hw2
      · have hkn : k = n := by omega
        subst hkn
        clear hr1
        go_wp2
        go_ret2
        rw [List.take_of_length_le (by have := hl.out; omega)] at hw
        have e1 : mirF xs = xs.map mir1 := by unfold mirF okL; rw [if_pos Hok.out]
        have e2 : err384 xs = 0 := by unfold err384 okE; rw [if_pos Hok.out]
        rw [e1, e2]
        exact ⟨A', k, c', rfl, own_mono hw hb1.size, by rw [List.length_map]; exact hl.out, hn, below_on hb hb1⟩
  · have Hok : Hid (featsOk 384 xs = false) := by simpa [Hid] using hok
    have hok' := Hok.out
    go_enter Try.func47, Try.ntmps47
    go_wp2_with (go_at_call 63; with_reducible refine (l08Ok_any _ _ _ _ _ hr hn).mono ?_; rintro e w1 ⟨rfl, hb1⟩)
    go_ret2
    have e1 : mirF xs = [] := by unfold mirF okL; rw [if_neg (by rw [Hok.out]; decide)]
    have e2 : err384 xs = 1 := by unfold err384 okE; rw [if_neg (by rw [Hok.out]; decide)]
    rw [e1, e2]
    exact ⟨none, 0, 0, rfl, World.ownsRow_nil _ _ _ _, rfl, by decide, hb1⟩
set_option maxHeartbeats 1000000 in
theorem iMirror_any (A : Option Addr) (n c : Nat) (xs : List T3) (w : World) (hr : RdL c3 3 w w.heap.size A n c xs) (hn : n ≤ 1048576) :
    Calls Try.prog 48 #[.slice A n c] w fun e w' => ∃ A' n' c', e = .returned (.tuple #[.slice A' n' c', .int .i64 (err384 xs)]) ∧ w'.ownsRow w.heap.size 25 3 (.slice A' n' c') n' ((mirF xs).flatMap c3) ∧
      (mirF xs).length = n' ∧ n' ≤ 1048576 ∧ Below w.heap.size w w' := by
  obtain ⟨i0, hi, hz0, hz1, hz2⟩ := info_parts Try.feInfo
  have hl := Lib.hid hr.len
  by_cases hok : featsOk 384 xs = true
  · have Hok := Lib.hid hok
    go_enter Try.func48, Try.ntmps48
    go_wp2_with (go_at_call 26; with_reducible refine (iValidFeats_any _ _ _ _ _ hr hn).mono ?_; rintro e w1 ⟨rfl, hb1⟩)
    have hr1 := hr.on hb1
    clear hr hok
    go_loopw [4, 12] (fun v i wr => ∃ (k c' : Nat) (A' : Option Addr), k ≤ n ∧ i = .int .i64 k ∧ v = .slice A' k c' ∧ Below w1.heap.size w1 wr ∧ wr.ownsRow w1.heap.size 25 3 (.slice A' k c') k (((xs.take k).map mir1).flatMap c3)) (fun _ i _ => n - (intOf i).toNat)
    case atStart => exact ⟨0, 0, _, by omega, rfl, rfl, (by repeat (first | exact Below.refl _ _ | assumption | refine Below.drew ?_ | refine below_drewN ?_ _ | refine Below.alloc ?_ (by simp <;> omega) _ | refine Below.setCell ?_ (by simp <;> omega) _)), World.ownsRow_nil _ _ _ _⟩
    case round =>
      obtain ⟨k, c', A', hk, rfl, rfl, hb, hw⟩ := hrel
      by_cases hlt : k < n
      · obtain ⟨b, off, x, y, d, rfl, hbl, hx, q0, q1, q2⟩ := (hr1.below hb).at3 hlt
        obtain ⟨⟨hx0, hx1⟩, ⟨hy0, hy1⟩, ⟨hd0, hd1⟩⟩ := featB_iff.1 (show featB x y d = true from all_at (p := featOk) (x := (x, y, d)) (Bool.and_eq_true_iff.1 Hok.out).1 hx.out)
        clear hr1
        go_wp2_with (at_builtin; with_reducible refine app_one _ c3_len one3 rfl (.tmp 16) (.tmp 28) 34 rfl w1.heap.size 25 i0 _ Try.underlying34 hi hz0 hz1 hz2 rfl (by decide) (by decide) A' k c' _ rfl ((hw.alloc _).alloc _) (wr.heap.size + 1) 1 (mir1 (x, y, d)) rfl ?_ (by omega) ?_ ?_)
        · exact news3 (Cell3.two wr x y d (255 - x) y ((4 - d) % 8) 25 25).2
        · have := hb.size; simp; omega
        · intro A2 c2 w2 hw2 hbw2
          have hb2 : Below w1.heap.size w1 w2 := ((hb.alloc hb.size _).alloc (by have := hb.size; simp; omega) _).trans hbw2
          clear hw hb hbw2
          go_wp2
          refine ⟨⟨k + 1, c2, A2, by omega, by go_num, rfl, hb2, ?_⟩, by simp [intOf]; omega⟩
          simpa [map_step hx.out, flat_snoc, List.map_take] using hw2
      · have hkn : k = n := by omega
        subst hkn
        clear hr1
        go_wp2
        go_ret2
        rw [List.take_of_length_le (by have := hl.out; omega)] at hw
        have e1 : mirF xs = xs.map mir1 := by unfold mirF okL; rw [if_pos Hok.out]
        have e2 : err384 xs = 0 := by unfold err384 okE; rw [if_pos Hok.out]
        rw [e1, e2]
        exact ⟨A', k, c', rfl, own_mono hw hb1.size, by rw [List.length_map]; exact hl.out, hn, below_on hb hb1⟩
  · have Hok : Hid (featsOk 384 xs = false) := by simpa [Hid] using hok
    have hok' := Hok.out
    go_enter Try.func48, Try.ntmps48
    go_wp2_with (go_at_call 26; with_reducible refine (iValidFeats_any _ _ _ _ _ hr hn).mono ?_; rintro e w1 ⟨rfl, hb1⟩)
    go_ret2
    have e1 : mirF xs = [] := by unfold mirF okL; rw [if_neg (by rw [Hok.out]; decide)]
    have e2 : err384 xs = 1 := by unfold err384 okE; rw [if_neg (by rw [Hok.out]; decide)]
    rw [e1, e2]
    exact ⟨none, 0, 0, rfl, World.ownsRow_nil _ _ _ _, rfl, by decide, hb1⟩
set_option maxHeartbeats 1000000 in
theorem sBack_any (A : Option Addr) (n c : Nat) (xs : List T3) (w : World) (hr : RdL c3 3 w w.heap.size A n c xs) (hn : n ≤ 1048576) :
    Calls Try.prog 51 #[.slice A n c] w fun e w' => ∃ A' n' c', e = .returned (.tuple #[.slice A' n' c', .int .i64 (err384 xs)]) ∧ w'.ownsRow w.heap.size 25 3 (.slice A' n' c') n' ((backF xs).flatMap c3) ∧
      (backF xs).length = n' ∧ n' ≤ 1048576 ∧ Below w.heap.size w w' := by
  obtain ⟨i0, hi, hz0, hz1, hz2⟩ := info_parts Try.feInfo
  have hl := Lib.hid hr.len
  by_cases hok : featsOk 384 xs = true
  · have Hok := Lib.hid hok
    go_enter Try.func51, Try.ntmps51
    go_wp2_with (go_at_call 63; with_reducible refine (l08Ok_any _ _ _ _ _ hr hn).mono ?_; rintro e w1 ⟨rfl, hb1⟩)
    have hr1 := hr.on hb1
    clear hr hok
    go_loopw [4, 5] (fun v i wr => ∃ (m c' : Nat) (A' : Option Addr), m ≤ n ∧ i = .int .i64 ((m : Int) - 1) ∧ v = .slice A' (n - m) c' ∧ Below w1.heap.size w1 wr ∧ wr.ownsRow w1.heap.size 25 3 (.slice A' (n - m) c') (n - m) (((xs.drop m).reverse.map back1).flatMap c3)) (fun _ i _ => (intOf i + 1).toNat)
    case atStart => exact ⟨n, 0, _, by omega, by go_num, by rw [Nat.sub_self], (by repeat (first | exact Below.refl _ _ | assumption | refine Below.drew ?_ | refine below_drewN ?_ _ | refine Below.alloc ?_ (by simp <;> omega) _ | refine Below.setCell ?_ (by simp <;> omega) _)), by rw [Nat.sub_self, List.drop_eq_nil_of_le (by have := hl.out; omega)]; exact (by simpa using World.ownsRow_lit (base := w1.heap.size) (e := 25) (size := 3) w1 #[] 0 (Nat.le_refl _) (by simp [maxLen]) rfl)⟩
    case round =>
      obtain ⟨m, c', A', hk, rfl, rfl, hb, hw⟩ := hrel
      by_cases hlt : 0 < m
      · obtain ⟨k, rfl⟩ : ∃ k, m = k + 1 := ⟨m - 1, by omega⟩
        rw [show (((k + 1 : Nat) : Int) - 1) = (k : Int) by omega]
        obtain ⟨b, off, x, y, d, rfl, hbl, hx, q0, q1, q2⟩ := (hr1.below hb).at3 (show k < n by omega)
        obtain ⟨⟨hx0, hx1⟩, ⟨hy0, hy1⟩, ⟨hd0, hd1⟩⟩ := featB_iff.1 (show featB x y d = true from all_at (p := featOk) (x := (x, y, d)) (Bool.and_eq_true_iff.1 Hok.out).1 hx.out)
        clear hr1
        go_wp2_with (at_builtin; with_reducible refine app_one _ c3_len one3 rfl (.tmp 22) (.tmp 32) 34 rfl w1.heap.size 25 i0 _ Try.underlying34 hi hz0 hz1 hz2 rfl (by decide) (by decide) A' (n - (k + 1)) c' _ rfl ((hw.alloc _).alloc _) (wr.heap.size + 1) 1 (back1 (x, y, d)) rfl ?_ (by omega) ?_ ?_)
        · exact news3 (Cell3.two wr x y d x y ((d + 4) % 8) 25 25).2
        · have := hb.size; simp; omega
        · intro A2 c2 w2 hw2 hbw2
          have hb2 : Below w1.heap.size w1 w2 := ((hb.alloc hb.size _).alloc (by have := hb.size; simp; omega) _).trans hbw2
          clear hw hb hbw2
          go_wp2
          have ek : n - (k + 1) + 1 = n - k := by omega
          rw [ek] at hw2
          refine ⟨⟨k, c2, A2, by omega, by go_num, by rw [ek], hb2, ?_⟩, by simp [intOf]⟩
          rw [rev_step hx.out, List.map_append, List.map_cons, List.map_nil, flat_snoc]
          simpa [List.map_reverse, List.map_drop] using hw2
      · have hkn : m = 0 := by omega
        subst hkn
        clear hr1
        go_wp2
        go_ret2
        rw [List.drop_zero, Nat.sub_zero] at hw
        have e1 : backF xs = xs.reverse.map back1 := by unfold backF okL; rw [if_pos Hok.out]
        have e2 : err384 xs = 0 := by unfold err384 okE; rw [if_pos Hok.out]
        rw [e1, e2]
        exact ⟨A', n, c', rfl, own_mono hw hb1.size, by rw [List.length_map, List.length_reverse]; exact hl.out, hn, below_on hb hb1⟩
  · have Hok : Hid (featsOk 384 xs = false) := by simpa [Hid] using hok
    have hok' := Hok.out
    go_enter Try.func51, Try.ntmps51
    go_wp2_with (go_at_call 63; with_reducible refine (l08Ok_any _ _ _ _ _ hr hn).mono ?_; rintro e w1 ⟨rfl, hb1⟩)
    go_ret2
    have e1 : backF xs = [] := by unfold backF okL; rw [if_neg (by rw [Hok.out]; decide)]
    have e2 : err384 xs = 1 := by unfold err384 okE; rw [if_neg (by rw [Hok.out]; decide)]
    rw [e1, e2]
    exact ⟨none, 0, 0, rfl, World.ownsRow_nil _ _ _ _, rfl, by decide, hb1⟩
set_option maxHeartbeats 1000000 in
theorem iBack_any (A : Option Addr) (n c : Nat) (xs : List T3) (w : World) (hr : RdL c3 3 w w.heap.size A n c xs) (hn : n ≤ 1048576) :
    Calls Try.prog 52 #[.slice A n c] w fun e w' => ∃ A' n' c', e = .returned (.tuple #[.slice A' n' c', .int .i64 (err384 xs)]) ∧ w'.ownsRow w.heap.size 25 3 (.slice A' n' c') n' ((backF xs).flatMap c3) ∧
      (backF xs).length = n' ∧ n' ≤ 1048576 ∧ Below w.heap.size w w' := by
  obtain ⟨i0, hi, hz0, hz1, hz2⟩ := info_parts Try.feInfo
  have hl := Lib.hid hr.len
  by_cases hok : featsOk 384 xs = true
  · have Hok := Lib.hid hok
    go_enter Try.func52, Try.ntmps52
    go_wp2_with (go_at_call 26; with_reducible refine (iValidFeats_any _ _ _ _ _ hr hn).mono ?_; rintro e w1 ⟨rfl, hb1⟩)
    have hr1 := hr.on hb1
    clear hr hok
    go_loopw [4, 5] (fun v i wr => ∃ (m c' : Nat) (A' : Option Addr), m ≤ n ∧ i = .int .i64 ((m : Int) - 1) ∧ v = .slice A' (n - m) c' ∧ Below w1.heap.size w1 wr ∧ wr.ownsRow w1.heap.size 25 3 (.slice A' (n - m) c') (n - m) (((xs.drop m).reverse.map back1).flatMap c3)) (fun _ i _ => (intOf i + 1).toNat)
    case atStart => exact ⟨n, 0, _, by omega, by go_num, by rw [Nat.sub_self], (by repeat (first | exact Below.refl _ _ | assumption | refine Below.drew ?_ | refine below_drewN ?_ _ | refine Below.alloc ?_ (by simp <;> omega) _ | refine Below.setCell ?_ (by simp <;> omega) _)), by rw [Nat.sub_self, List.drop_eq_nil_of_le (by have := hl.out; omega)]; exact (World.ownsRow_nil _ _ _ _)⟩
    case round =>
      obtain ⟨m, c', A', hk, rfl, rfl, hb, hw⟩ := hrel
      by_cases hlt : 0 < m
      · obtain ⟨k, rfl⟩ : ∃ k, m = k + 1 := ⟨m - 1, by omega⟩
        rw [show (((k + 1 : Nat) : Int) - 1) = (k : Int) by omega]
        obtain ⟨b, off, x, y, d, rfl, hbl, hx, q0, q1, q2⟩ := (hr1.below hb).at3 (show k < n by omega)
        obtain ⟨⟨hx0, hx1⟩, ⟨hy0, hy1⟩, ⟨hd0, hd1⟩⟩ := featB_iff.1 (show featB x y d = true from all_at (p := featOk) (x := (x, y, d)) (Bool.and_eq_true_iff.1 Hok.out).1 hx.out)
        clear hr1
        go_wp2_with (at_builtin; with_reducible refine app_one _ c3_len one3 rfl (.tmp 21) (.tmp 31) 34 rfl w1.heap.size 25 i0 _ Try.underlying34 hi hz0 hz1 hz2 rfl (by decide) (by decide) A' (n - (k + 1)) c' _ rfl ((hw.alloc _).alloc _) (wr.heap.size + 1) 1 (back1 (x, y, d)) rfl ?_ (by omega) ?_ ?_)
        · exact news3 (Cell3.two wr x y d x y ((d + 4) % 8) 25 25).2
        · have := hb.size; simp; omega
        · intro A2 c2 w2 hw2 hbw2
          have hb2 : Below w1.heap.size w1 w2 := ((hb.alloc hb.size _).alloc (by have := hb.size; simp; omega) _).trans hbw2
          clear hw hb hbw2
          go_wp2
          have ek : n - (k + 1) + 1 = n - k := by omega
          rw [ek] at hw2
          refine ⟨⟨k, c2, A2, by omega, by go_num, by rw [ek], hb2, ?_⟩, by simp [intOf]⟩
          rw [rev_step hx.out, List.map_append, List.map_cons, List.map_nil, flat_snoc]
          simpa [List.map_reverse, List.map_drop] using hw2
      · have hkn : m = 0 := by omega
        subst hkn
        clear hr1
        go_wp2
        go_ret2
        rw [List.drop_zero, Nat.sub_zero] at hw
        have e1 : backF xs = xs.reverse.map back1 := by unfold backF okL; rw [if_pos Hok.out]
        have e2 : err384 xs = 0 := by unfold err384 okE; rw [if_pos Hok.out]
        rw [e1, e2]
        exact ⟨A', n, c', rfl, own_mono hw hb1.size, by rw [List.length_map, List.length_reverse]; exact hl.out, hn, below_on hb hb1⟩
  · have Hok : Hid (featsOk 384 xs = false) := by simpa [Hid] using hok
    have hok' := Hok.out
    go_enter Try.func52, Try.ntmps52
    go_wp2_with (go_at_call 26; with_reducible refine (iValidFeats_any _ _ _ _ _ hr hn).mono ?_; rintro e w1 ⟨rfl, hb1⟩)
    go_ret2
    have e1 : backF xs = [] := by unfold backF okL; rw [if_neg (by rw [Hok.out]; decide)]
    have e2 : err384 xs = 1 := by unfold err384 okE; rw [if_neg (by rw [Hok.out]; decide)]
    rw [e1, e2]
    exact ⟨none, 0, 0, rfl, World.ownsRow_nil _ _ _ _, rfl, by decide, hb1⟩
end Go.Proofs.Ytpelphiboknmdaa
