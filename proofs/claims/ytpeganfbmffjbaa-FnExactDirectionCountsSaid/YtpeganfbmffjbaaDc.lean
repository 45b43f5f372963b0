/- Contracts of DirectionCounts. -/
import Derived.Test.YtpeganfbmffjbaaMk
import Derived.Test.YtpeganfbmffjbaaFlInt
namespace Go.Proofs.Ytpeganfbmffjbaa
open Go.ChangeShapes Go.WideShapes Go.ChangeAt Go.RowKit
def dirStep (c : List Int) (f : T3) : List Int := c.set f.2.2.toNat (c.getD f.2.2.toNat 0 + 1)
def dirL (xs : List T3) : List Int := xs.foldl dirStep (List.replicate 8 0)
def dirF (xs : List T3) : List Int := okL (featsOk 384 xs) (dirL xs)
theorem dirL_len (xs : List T3) : (dirL xs).length = 8 := by
  unfold dirL
  have : ∀ (l : List Int), l.length = 8 → (xs.foldl dirStep l).length = 8 := by
    induction xs with
    | nil => intro l h; exact h
    | cons x xs ih => intro l h; exact ih _ (by simp [dirStep, h])
  exact this _ rfl
theorem dirL_step {xs : List T3} {k : Nat} {x y d : Int} (h : xs[k]? = some (x, y, d)) : dirL (xs.take (k + 1)) = dirStep (dirL (xs.take k)) (x, y, d) := fold_step h
theorem dirL_bd : ∀ (xs : List T3) (j : Nat), 0 ≤ (dirL xs).getD j 0 ∧ (dirL xs).getD j 0 ≤ xs.length := by
  intro xs j
  unfold dirL
  have key : ∀ (ys : List T3) (l : List Int) (m : Nat), (∀ j, 0 ≤ l.getD j 0 ∧ l.getD j 0 ≤ m) → ∀ j, 0 ≤ (ys.foldl dirStep l).getD j 0 ∧ (ys.foldl dirStep l).getD j 0 ≤ (m + ys.length : Nat) := by
    intro ys
    induction ys with
    | nil => intro l m h j; simpa using h j
    | cons y ys ih =>
      intro l m h j
      have := ih (dirStep l y) (m + 1) (by
        intro i
        unfold dirStep
        rw [List.getD_eq_getElem?_getD, List.getElem?_set]
        have h1 := h i
        have h2 := h y.2.2.toNat
        split
        · rename_i e; subst e
          split
          · simp only [Option.getD_some]; omega
          · simp; omega
        · rw [← List.getD_eq_getElem?_getD]; omega) j
      simp only [List.foldl_cons, List.length_cons]
      omega
  have := key xs (List.replicate 8 0) 0 (by
    intro j
    rw [List.getD_eq_getElem?_getD, List.getElem?_replicate]
    split <;> simp) j
  omega
theorem flat1 (l : List Int) : l.flatMap c1 = l.map (Value.int .i64) := by
  induction l with
  | nil => rfl
  | cons x l ih => simp [List.flatMap_cons, c1, ih]
theorem own1_cell {w : World} {base g n c : Nat} {e : TypeId} {l : List Int} (h : w.ownsRow base e 1 (.slice (some ⟨g, 0, none⟩) n c) n (l.flatMap c1)) {j : Nat} (hj : j < n) :
    w.cell? ⟨g, j, none⟩ = some (.int .i64 (l.getD j 0)) ∧ w.frozen? ⟨g, j, none⟩ = false := by
  refine ⟨?_, h.frozenAt j⟩
  have hl : l.length = n := by have := h.1; rw [flat_len c1_len] at this; omega
  rw [h.cellAt j (by omega), flat1, List.getElem?_map, List.getElem?_eq_getElem (by omega), List.getD_eq_getElem?_getD, List.getElem?_eq_getElem (by omega)]
  rfl
theorem own1_set {w : World} {base g n c : Nat} {e : TypeId} {l : List Int} (h : w.ownsRow base e 1 (.slice (some ⟨g, 0, none⟩) n c) n (l.flatMap c1)) (j : Nat) (v : Int) :
    (w.setCell ⟨g, j, none⟩ (.int .i64 v)).ownsRow base e 1 (.slice (some ⟨g, 0, none⟩) n c) n ((l.set j v).flatMap c1) := by
  have := (h.stored j (.int .i64 v)).1
  rw [flat1] at this ⊢
  rwa [List.map_set]
set_option maxHeartbeats 1000000 in
theorem iDir_any (A : Option Addr) (n c : Nat) (xs : List T3) (w : World) (hr : RdL c3 3 w w.heap.size A n c xs) (hn : n ≤ 1048576) :
    Calls Try.prog 22 #[.slice A n c] w fun e w' => ∃ A' n' c', e = .returned (.tuple #[.slice A' n' c', .int .i64 (okE (featsOk 384 xs))]) ∧ w'.ownsRow w.heap.size 2 1 (.slice A' n' c') n' ((dirF xs).flatMap c1) ∧
      (dirF xs).length = n' ∧ n' ≤ 1048576 ∧ Below w.heap.size w w' := by
  have hl := Lib.hid hr.len
  by_cases hok : featsOk 384 xs = true
  · have Hok := Lib.hid hok
    go_enter Try.func22, Try.ntmps22
    go_wp2_with fail
    with_reducible refine (iValidFeats_any _ _ _ _ _ hr hn).mono ?_
    rintro e w1 ⟨rfl, hb1⟩
    have hr1 := hr.on hb1
    clear hr
    have hmk : ∀ w : World, (Instr.makeSlice 33 (.int .i64 8) (.int .i64 8)).run Try.prog w = .ok (.slice (some ⟨w.heap.size, 0, none⟩) 8 8) (w.alloc (.cells #[.int .i64 0, .int .i64 0, .int .i64 0, .int .i64 0, .int .i64 0, .int .i64 0, .int .i64 0, .int .i64 0] 2)) := fun _ => by kernel_rfl
    have hown : (w1.alloc (.cells #[.int .i64 0, .int .i64 0, .int .i64 0, .int .i64 0, .int .i64 0, .int .i64 0, .int .i64 0, .int .i64 0] 2)).ownsRow w1.heap.size 2 1 (.slice (some ⟨w1.heap.size, 0, none⟩) 8 8) 8 ((dirL []).flatMap c1) :=
      World.ownsRow_lit (base := w1.heap.size) (e := 2) (size := 1) w1 #[.int .i64 0, .int .i64 0, .int .i64 0, .int .i64 0, .int .i64 0, .int .i64 0, .int .i64 0, .int .i64 0] 8 (Nat.le_refl _) (by simp [maxLen]) rfl
    go_wp2
    clear hmk hok
    go_loopw [13] (fun i wr => ∃ k : Nat, k ≤ n ∧ i = .int .i64 k ∧ Below w1.heap.size w1 wr ∧ wr.ownsRow w1.heap.size 2 1 (.slice (some ⟨w1.heap.size, 0, none⟩) 8 8) 8 ((dirL (xs.take k)).flatMap c1)) (fun i _ => n - (intOf i).toNat)
    case atStart => exact ⟨0, by omega, rfl, (Below.refl _ _).alloc (Nat.le_refl _) _, hown⟩
    case round =>
      obtain ⟨k, hk, rfl, hb, hw⟩ := hrel
      by_cases hlt : k < n
      · obtain ⟨b, off, x, y, d, rfl, hbl, hx, q0, q1, q2⟩ := (hr1.below hb).at3 hlt
        obtain ⟨⟨hx0, hx1⟩, ⟨hy0, hy1⟩, ⟨hd0, hd1⟩⟩ := featB_iff.1 (show featB x y d = true from all_at (p := featOk) (x := (x, y, d)) (Bool.and_eq_true_iff.1 Hok.out).1 hx.out)
        obtain ⟨e0, f0⟩ := own1_cell hw (j := d.toNat) (by omega)
        have hbd := dirL_bd (xs.take k) d.toNat
        have hbd0 := hbd.1
        have hbd1 : (dirL (xs.take k)).getD d.toNat 0 ≤ 1048576 := by have := hbd.2; rw [List.length_take] at this; omega
        have HS : Hid (dirL (xs.take (k + 1)) = (dirL (xs.take k)).set d.toNat ((dirL (xs.take k)).getD d.toNat 0 + 1)) := dirL_step hx.out
        have hsz := hb.size
        have hgz : w1.heap.size < wr.heap.size := World.block_lt_of_cell? (w := wr) (a := ⟨w1.heap.size, d.toNat, none⟩) e0
        generalize hv : (dirL (xs.take k)).getD d.toNat 0 = v at *
        clear hr1 hown hbd hv
        go_wp2
        refine ⟨⟨k + 1, by omega, by go_num, (by repeat (first | exact Below.refl _ _ | assumption | refine Below.drew ?_ | refine below_drewN ?_ _ | refine Below.alloc ?_ (by first | omega | (simp <;> omega)) _ | refine Below.setCell ?_ (by first | omega | (simp <;> omega)) _)), ?_⟩, by simp [intOf]; omega⟩
        rw [HS.out]
        exact (own1_set hw _ _).alloc _
      · have hkn : k = n := by omega
        subst hkn
        clear hr1 hown
        go_wp2
        go_ret2
        rw [List.take_of_length_le (by have := hl.out; omega)] at hw
        have e1 : dirF xs = dirL xs := by unfold dirF okL; rw [if_pos Hok.out]
        have e2 : okE (featsOk 384 xs) = 0 := by unfold okE; rw [if_pos Hok.out]
        rw [e1, e2]
        exact ⟨_, 8, 8, rfl, own_mono hw hb1.size, dirL_len xs, by omega, below_on hb hb1⟩
  · have Hok : Hid (featsOk 384 xs = false) := by simpa [Hid] using hok
    have hok' := Hok.out
    go_enter Try.func22, Try.ntmps22
    go_wp2_with (go_at_call 67; with_reducible refine (iValidFeats_any _ _ _ _ _ hr hn).mono ?_; rintro e w1 ⟨rfl, hb1⟩)
    go_ret2
    have e1 : dirF xs = [] := by unfold dirF okL; rw [if_neg (by rw [Hok.out]; decide)]
    have e2 : okE (featsOk 384 xs) = 1 := by unfold okE; rw [if_neg (by rw [Hok.out]; decide)]
    rw [e1, e2]
    exact ⟨none, 0, 0, rfl, World.ownsRow_nil _ _ _ _, rfl, by decide, hb1⟩
set_option maxHeartbeats 1000000 in
theorem sDir_any (A : Option Addr) (n c : Nat) (xs : List T3) (w : World) (hr : RdL c3 3 w w.heap.size A n c xs) (hn : n ≤ 1048576) :
    Calls Try.prog 21 #[.slice A n c] w fun e w' => ∃ A' n' c', e = .returned (.tuple #[.slice A' n' c', .int .i64 (okE (featsOk 384 xs))]) ∧ w'.ownsRow w.heap.size 2 1 (.slice A' n' c') n' ((dirF xs).flatMap c1) ∧
      (dirF xs).length = n' ∧ n' ≤ 1048576 ∧ Below w.heap.size w w' := by
  have hl := Lib.hid hr.len
  by_cases hok : featsOk 384 xs = true
  · have Hok := Lib.hid hok
    go_enter Try.func21, Try.ntmps21
    go_wp2_with fail
    with_reducible refine (l08Ok_any _ _ _ _ _ hr hn).mono ?_
    rintro e w1 ⟨rfl, hb1⟩
    have hr1 := hr.on hb1
    clear hr
    have hmk : ∀ w : World, (Instr.makeSlice 33 (.int .i64 8) (.int .i64 8)).run Try.prog w = .ok (.slice (some ⟨w.heap.size, 0, none⟩) 8 8) (w.alloc (.cells #[.int .i64 0, .int .i64 0, .int .i64 0, .int .i64 0, .int .i64 0, .int .i64 0, .int .i64 0, .int .i64 0] 2)) := fun _ => by kernel_rfl
    have hown : (w1.alloc (.cells #[.int .i64 0, .int .i64 0, .int .i64 0, .int .i64 0, .int .i64 0, .int .i64 0, .int .i64 0, .int .i64 0] 2)).ownsRow w1.heap.size 2 1 (.slice (some ⟨w1.heap.size, 0, none⟩) 8 8) 8 ((dirL []).flatMap c1) :=
      World.ownsRow_lit (base := w1.heap.size) (e := 2) (size := 1) w1 #[.int .i64 0, .int .i64 0, .int .i64 0, .int .i64 0, .int .i64 0, .int .i64 0, .int .i64 0, .int .i64 0] 8 (Nat.le_refl _) (by simp [maxLen]) rfl
    go_wp2
    clear hmk hok
    go_loopw [5] (fun i wr => ∃ k : Nat, k ≤ n ∧ i = .int .i64 k ∧ Below w1.heap.size w1 wr ∧ wr.ownsRow w1.heap.size 2 1 (.slice (some ⟨w1.heap.size, 0, none⟩) 8 8) 8 ((dirL (xs.take k)).flatMap c1)) (fun i _ => n - (intOf i).toNat)
    case atStart => exact ⟨0, by omega, rfl, (Below.refl _ _).alloc (Nat.le_refl _) _, hown⟩
    case round =>
      obtain ⟨k, hk, rfl, hb, hw⟩ := hrel
      by_cases hlt : k < n
      · obtain ⟨b, off, x, y, d, rfl, hbl, hx, q0, q1, q2⟩ := (hr1.below hb).at3 hlt
        obtain ⟨⟨hx0, hx1⟩, ⟨hy0, hy1⟩, ⟨hd0, hd1⟩⟩ := featB_iff.1 (show featB x y d = true from all_at (p := featOk) (x := (x, y, d)) (Bool.and_eq_true_iff.1 Hok.out).1 hx.out)
        obtain ⟨e0, f0⟩ := own1_cell hw (j := d.toNat) (by omega)
        have hbd := dirL_bd (xs.take k) d.toNat
        have hbd0 := hbd.1
        have hbd1 : (dirL (xs.take k)).getD d.toNat 0 ≤ 1048576 := by have := hbd.2; rw [List.length_take] at this; omega
        have HS : Hid (dirL (xs.take (k + 1)) = (dirL (xs.take k)).set d.toNat ((dirL (xs.take k)).getD d.toNat 0 + 1)) := dirL_step hx.out
        have hsz := hb.size
        have hgz : w1.heap.size < wr.heap.size := World.block_lt_of_cell? (w := wr) (a := ⟨w1.heap.size, d.toNat, none⟩) e0
        generalize hv : (dirL (xs.take k)).getD d.toNat 0 = v at *
        clear hr1 hown hbd hv
        go_wp2
        refine ⟨⟨k + 1, by omega, by go_num, (by repeat (first | exact Below.refl _ _ | assumption | refine Below.drew ?_ | refine below_drewN ?_ _ | refine Below.alloc ?_ (by first | omega | (simp <;> omega)) _ | refine Below.setCell ?_ (by first | omega | (simp <;> omega)) _)), ?_⟩, by simp [intOf]; omega⟩
        rw [HS.out]
        exact own1_set hw _ _
      · have hkn : k = n := by omega
        subst hkn
        clear hr1 hown
        go_wp2
        go_ret2
        rw [List.take_of_length_le (by have := hl.out; omega)] at hw
        have e1 : dirF xs = dirL xs := by unfold dirF okL; rw [if_pos Hok.out]
        have e2 : okE (featsOk 384 xs) = 0 := by unfold okE; rw [if_pos Hok.out]
        rw [e1, e2]
        exact ⟨_, 8, 8, rfl, own_mono hw hb1.size, dirL_len xs, by omega, below_on hb hb1⟩
  · have Hok : Hid (featsOk 384 xs = false) := by simpa [Hid] using hok
    have hok' := Hok.out
    go_enter Try.func21, Try.ntmps21
    go_wp2_with (go_at_call 64; with_reducible refine (l08Ok_any _ _ _ _ _ hr hn).mono ?_; rintro e w1 ⟨rfl, hb1⟩)
    go_ret2
    have e1 : dirF xs = [] := by unfold dirF okL; rw [if_neg (by rw [Hok.out]; decide)]
    have e2 : okE (featsOk 384 xs) = 1 := by unfold okE; rw [if_neg (by rw [Hok.out]; decide)]
    rw [e1, e2]
    exact ⟨none, 0, 0, rfl, World.ownsRow_nil _ _ _ _, rfl, by decide, hb1⟩
end Go.Proofs.Ytpeganfbmffjbaa
