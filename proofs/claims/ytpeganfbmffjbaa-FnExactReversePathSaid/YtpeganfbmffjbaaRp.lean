/- Contracts of ReversePath. -/
import Derived.Test.YtpeganfbmffjbaaPt
import Derived.Test.YtpeganfbmffjbaaPm
namespace Go.Proofs.Ytpeganfbmffjbaa
open Go.ChangeShapes Go.WideShapes Go.ChangeAt Go.RowKit
theorem rev_stepP {α : Type} {xs : List α} {k : Nat} {x : α} (h : xs[k]? = some x) : (xs.drop k).reverse = (xs.drop (k + 1)).reverse ++ [x] := by
  rw [drop_of h, List.reverse_cons]
def lastP (xs : List T2) : T2 := at0 xs (xs.length - 1)
def revOk (xs : List T2) : Bool := decide (0 < xs.length) && ((inB 0 71 (lastP xs).1 && inB 0 71 (lastP xs).2) && iPath xs ((lastP xs).1 + 1) ((lastP xs).2 + 1) 72)
def sub1 (l p : T2) : T2 := (l.1 - p.1, l.2 - p.2)
def revF (xs : List T2) : List T2 := okL (revOk xs) (xs.reverse.map (sub1 (lastP xs)))
theorem iPath_bd {xs : List T2} {N M band : Int} (g : ∀ x ∈ xs, ok2 x) (hn : xs.length ≤ 1048576) (h : iPath xs N M band = true) (k : Nat) {x y : Int} (hx : xs[k]? = some (x, y)) : (0 ≤ x ∧ x ≤ 1048576) ∧ (0 ≤ y ∧ y ≤ 1048576) := by
  unfold iPath pEnds at h
  simp only [Bool.and_eq_true, decide_eq_true_eq, eqd_iff, List.all_eq_true, List.mem_range] at h
  obtain ⟨⟨hl, h0, _⟩, hc⟩ := h
  have hk : k < xs.length := (List.getElem?_eq_some_iff.1 hx).1
  have hm := iPath_mono g h0 hn hc k hk
  rw [at0_of hx] at hm
  simp only at hm
  omega
set_option maxRecDepth 100000 in
set_option maxHeartbeats 2000000 in
theorem iReverse_any (A : Option Addr) (n c : Nat) (xs : List T2) (w : World) (hr : RdL c2 2 w w.heap.size A n c xs) (hn : n ≤ 1048576) (g : ∀ x ∈ xs, ok2 x) :
    Calls Try.prog 30 #[.slice A n c] w fun e w' => ∃ A' n' c', e = .returned (.tuple #[.slice A' n' c', .int .i64 (okE (revOk xs))]) ∧ w'.ownsRow w.heap.size 92 2 (.slice A' n' c') n' ((revF xs).flatMap c2) ∧
      (revF xs).length = n' ∧ n' ≤ 1048576 ∧ Below w.heap.size w w' := by
  obtain ⟨i0, hi, hz0, hz1, hz2⟩ := info_parts Try.infoPair
  have hl := Lib.hid hr.len
  have G := Lib.hid g
  clear g
  have hno : ∀ W : World, Below w.heap.size w W → revOk xs = false → ∃ A' n' c', Ending.returned (.tuple #[.slice none 0 0, .int .i64 1]) = Ending.returned (.tuple #[.slice A' n' c', .int .i64 (okE (revOk xs))]) ∧ W.ownsRow w.heap.size 92 2 (.slice A' n' c') n' ((revF xs).flatMap c2) ∧
      (revF xs).length = n' ∧ n' ≤ 1048576 ∧ Below w.heap.size w W := by
    intro W hb h
    have e1 : revF xs = [] := by unfold revF okL; rw [if_neg (by rw [h]; decide)]
    have e2 : okE (revOk xs) = 1 := by unfold okE; rw [if_neg (by rw [h]; decide)]
    rw [e1, e2]
    exact ⟨none, 0, 0, rfl, World.ownsRow_nil _ _ _ _, rfl, by decide, hb⟩
  have HN := Lib.hid hno
  clear hno
  by_cases hpos : 0 < n
  · obtain ⟨b, off, u, v, rfl, hbl, hxl, p0, p1⟩ := hr.at2 (k := n - 1) (by omega)
    have i1 : (0 : Int) ≤ (n : Int) - 1 := by omega
    have i1' : 1 ≤ n := by omega
    have i2 : ((n : Int) == 0) = false := by simp; omega
    have HL : Hid (lastP xs = (u, v)) := by unfold Hid lastP; rw [hl.out]; exact at0_of hxl.out
    have HR : Hid (revOk xs = ((inB 0 71 u && inB 0 71 v) && iPath xs (u + 1) (v + 1) 72)) := by
      unfold Hid revOk; rw [hl.out, HL.out, decide_eq_true hpos, Bool.true_and]
    by_cases hu : inB 0 71 u = true
    · by_cases hv : inB 0 71 v = true
      · obtain ⟨hu0, hu1⟩ := inB_iff.1 hu
        obtain ⟨hv0, hv1⟩ := inB_iff.1 hv
        have B1 := Cell2.new w u v 92
        have hra : RdL c2 2 (w.alloc (.cells #[.int .i64 u, .int .i64 v] 92)) (w.alloc (.cells #[.int .i64 u, .int .i64 v] 92)).heap.size (some ⟨b, off, none⟩) n c xs := hr.on ((Below.refl _ _).alloc (Nat.le_refl _) _)
        have hba : Below w.heap.size w (w.alloc (.cells #[.int .i64 u, .int .i64 v] 92)) := (Below.refl _ _).alloc (Nat.le_refl _) _
        by_cases hp : iPath xs (u + 1) (v + 1) 72 = true
        · have Hp := Lib.hid hp
          have HR1 : Hid (revOk xs = true) := by unfold Hid; rw [HR.out, hu, hv, Hp.out]; rfl
          go_enter Try.func30, Try.ntmps30
          go_wp2_with (first | (go_at_call 73; with_reducible refine (within_any _ _ _ _).mono ?_; rintro e w' ⟨rfl, rfl⟩) | (go_at_call 74; with_reducible refine (iPath_any _ _ _ xs _ _ _ _ hra hn).mono ?_; rintro e w1 ⟨rfl, hb1⟩))
          have hr1 := hra.on hb1
          obtain ⟨a0, a1⟩ := B1.on hb1
          have hb0 := below_on hb1 hba
          have hlt1 : w.heap.size < w1.heap.size := by have := hb1.size; simp at this; omega
          clear hr hra hba B1 hp hu hv p0 p1 hb1
          go_loopw [5, 6] (fun q i wr => ∃ (m c' : Nat) (A' : Option Addr), m ≤ n ∧ i = .int .i64 ((m : Int) - 1) ∧ q = .slice A' (n - m) c' ∧ Below w1.heap.size w1 wr ∧ wr.ownsRow w1.heap.size 92 2 (.slice A' (n - m) c') (n - m) (((xs.drop m).reverse.map (sub1 (u, v))).flatMap c2)) (fun _ i _ => (intOf i + 1).toNat)
          case atStart => exact ⟨n, 0, _, by omega, by go_num, by rw [Nat.sub_self], (by repeat (first | exact Below.refl _ _ | assumption | refine Below.drew ?_ | refine below_drewN ?_ _ | refine Below.alloc ?_ (by first | omega | (simp <;> omega)) _ | refine Below.setCell ?_ (by first | omega | (simp <;> omega)) _)), by rw [Nat.sub_self, List.drop_eq_nil_of_le (by have := hl.out; omega)]; exact (World.ownsRow_nil _ _ _ _)⟩
          case round =>
            obtain ⟨m, c', A', hk, rfl, rfl, hb, hw⟩ := hrel
            by_cases hlt : 0 < m
            · obtain ⟨k, rfl⟩ : ∃ k, m = k + 1 := ⟨m - 1, by omega⟩
              rw [show (((k + 1 : Nat) : Int) - 1) = (k : Int) by omega]
              obtain ⟨_, _, x, y, e1, hbl1, hx, q0, q1⟩ := (hr1.below hb).at2 (show k < n by omega)
              cases e1
              obtain ⟨⟨hx0, hx1⟩, ⟨hy0, hy1⟩⟩ := iPath_bd G.out (by rw [hl.out]; exact hn) Hp.out k hx.out
              have b0 := (hb.cell (p := ⟨w.heap.size, 0, none⟩) hlt1).trans a0
              have b1 := (hb.cell (p := ⟨w.heap.size, 1, none⟩) hlt1).trans a1
              have j1 : (k : Int) < (n : Int) := by omega
              have j2 : (0 : Int) ≤ (k : Int) := by omega
              have j3 : IntKind.i64.wrap (u - x) = u - x := IntWalk.i64_in _ (by omega)
              have j4 : IntKind.i64.wrap (v - y) = v - y := IntWalk.i64_in _ (by omega)
              clear hr1 a0 a1
              go_wp2
              go_region_held3 (fun w' => w'.cell? ⟨w.heap.size, 0, none⟩ = some (.int .i64 u) ∧ w'.cell? ⟨w.heap.size, 1, none⟩ = some (.int .i64 v) ∧ w'.cell? ⟨b, off + k * 2, none⟩ = some (.int .i64 x) ∧ w'.cell? ⟨b, off + k * 2 + 1, none⟩ = some (.int .i64 y))
                (first | exact ⟨b0, b1, q0, q1⟩ | go_keep | (go_split_ands; exact ⟨(hbw2.cell (p := ⟨w.heap.size, 0, none⟩) hlt1).trans ‹_›, (hbw2.cell (p := ⟨w.heap.size, 1, none⟩) hlt1).trans ‹_›, (hbw2.cell (p := ⟨b, off + k * 2, none⟩) hbl1).trans ‹_›, (hbw2.cell (p := ⟨b, off + k * 2 + 1, none⟩) hbl1).trans ‹_›⟩))
                ((refine step_one _ c2_len one2 (by rfl) (.tmp 44) (.tmp 62) 41 (by rfl) w1.heap.size 92 i0 _ Try.underlying41 hi hz0 hz1 hz2 rfl (by decide) (by decide) A' (n - (k + 1)) c' _ (by rfl) (hw.alloc _) wr.heap.size 1 (sub1 (u, v) (x, y)) (by rfl) (news2 (w := (wr.alloc (.cells #[.int .i64 (u - x), .int .i64 (v - y)] 92)).drew) (g := wr.heap.size) (x := u - x) (y := v - y) (Cell2.new wr (u - x) (v - y) 92)) (by omega) (by have := hb.size; simp; omega) ?_; intro A2 c2' w2 hw2 hbw2))
              go_split_ands
              clear j3 j4
              have hb2 : Below w1.heap.size w1 w2 := (Below.drew (Below.alloc hb hb.size _)).trans hbw2
              have ek : n - (k + 1) + 1 = n - k := by omega
              rw [ek] at hw2
              go_wp2
              refine ⟨⟨k, c2', A2, by omega, by go_num, by rw [ek], hb2, ?_⟩, by simp [intOf]⟩
              rw [rev_stepP hx.out, List.map_append, List.map_cons, List.map_nil]
              exact hw2
            · have hkn : m = 0 := by omega
              subst hkn
              clear hr1
              go_wp2
              go_ret2
              rw [List.drop_zero, Nat.sub_zero] at hw
              have e1 : revF xs = xs.reverse.map (sub1 (u, v)) := by unfold revF okL; rw [if_pos HR1.out, HL.out]
              have e2 : okE (revOk xs) = 0 := by unfold okE; rw [if_pos HR1.out]
              rw [e1, e2]
              exact ⟨A', n, c', rfl, own_mono hw (by omega), by rw [List.length_map, List.length_reverse]; exact hl.out, hn, below_on hb hb0⟩
        · have Hp : Hid (iPath xs (u + 1) (v + 1) 72 = false) := by simpa [Hid] using hp
          have hp' := Hp.out
          go_enter Try.func30, Try.ntmps30
          go_wp2_with (first | (go_at_call 73; with_reducible refine (within_any _ _ _ _).mono ?_; rintro e w' ⟨rfl, rfl⟩) | (go_at_call 74; with_reducible refine (iPath_any _ _ _ xs _ _ _ _ hra hn).mono ?_; rintro e w1 ⟨rfl, hb1⟩))
          go_ret2
          exact HN.out _ (below_on hb1 hba) (by rw [HR.out, Hp.out, Bool.and_false])
      · have Hv : Hid (inB 0 71 v = false) := by simpa [Hid] using hv
        have hv' := Hv.out
        clear hr
        go_enter Try.func30, Try.ntmps30
        go_wp2_with (first | (go_at_call 73; with_reducible refine (within_any _ _ _ _).mono ?_; rintro e w' ⟨rfl, rfl⟩))
        go_ret2
        exact HN.out _ (by repeat (first | exact Below.refl _ _ | assumption | refine Below.drew ?_ | refine below_drewN ?_ _ | refine Below.alloc ?_ (by first | omega | (simp <;> omega)) _ | refine Below.setCell ?_ (by first | omega | (simp <;> omega)) _)) (by rw [HR.out, Hv.out, Bool.and_false, Bool.false_and])
    · have Hu : Hid (inB 0 71 u = false) := by simpa [Hid] using hu
      have hu' := Hu.out
      clear hr
      go_enter Try.func30, Try.ntmps30
      go_wp2_with (first | (go_at_call 73; with_reducible refine (within_any _ _ _ _).mono ?_; rintro e w' ⟨rfl, rfl⟩))
      go_ret2
      exact HN.out _ (by repeat (first | exact Below.refl _ _ | assumption | refine Below.drew ?_ | refine below_drewN ?_ _ | refine Below.alloc ?_ (by first | omega | (simp <;> omega)) _ | refine Below.setCell ?_ (by first | omega | (simp <;> omega)) _)) (by rw [HR.out, Hu.out, Bool.false_and, Bool.false_and])
  · have h0 : n = 0 := by omega
    subst h0
    clear hr
    go_enter Try.func30, Try.ntmps30
    go_wp2
    go_ret2
    exact HN.out _ (Below.refl _ _) (by unfold revOk; rw [hl.out]; rfl)
set_option maxRecDepth 100000 in
set_option maxHeartbeats 2000000 in
theorem sReverse_any (A : Option Addr) (n c : Nat) (xs : List T2) (w : World) (hr : RdL c2 2 w w.heap.size A n c xs) (hn : n ≤ 1048576) (g : ∀ x ∈ xs, ok2 x) :
    Calls Try.prog 28 #[.slice A n c] w fun e w' => ∃ A' n' c', e = .returned (.tuple #[.slice A' n' c', .int .i64 (okE (revOk xs))]) ∧ w'.ownsRow w.heap.size 92 2 (.slice A' n' c') n' ((revF xs).flatMap c2) ∧
      (revF xs).length = n' ∧ n' ≤ 1048576 ∧ Below w.heap.size w w' := by
  obtain ⟨i0, hi, hz0, hz1, hz2⟩ := info_parts Try.infoPair
  have hl := Lib.hid hr.len
  have G := Lib.hid g
  clear g
  have hno : ∀ W : World, Below w.heap.size w W → revOk xs = false → ∃ A' n' c', Ending.returned (.tuple #[.slice none 0 0, .int .i64 1]) = Ending.returned (.tuple #[.slice A' n' c', .int .i64 (okE (revOk xs))]) ∧ W.ownsRow w.heap.size 92 2 (.slice A' n' c') n' ((revF xs).flatMap c2) ∧
      (revF xs).length = n' ∧ n' ≤ 1048576 ∧ Below w.heap.size w W := by
    intro W hb h
    have e1 : revF xs = [] := by unfold revF okL; rw [if_neg (by rw [h]; decide)]
    have e2 : okE (revOk xs) = 1 := by unfold okE; rw [if_neg (by rw [h]; decide)]
    rw [e1, e2]
    exact ⟨none, 0, 0, rfl, World.ownsRow_nil _ _ _ _, rfl, by decide, hb⟩
  have HN := Lib.hid hno
  clear hno
  by_cases hpos : 0 < n
  · obtain ⟨b, off, u, v, rfl, hbl, hxl, p0, p1⟩ := hr.at2 (k := n - 1) (by omega)
    have i1 : (0 : Int) ≤ (n : Int) - 1 := by omega
    have i1' : 1 ≤ n := by omega
    have i2 : ((n : Int) == 0) = false := by simp; omega
    have HL : Hid (lastP xs = (u, v)) := by unfold Hid lastP; rw [hl.out]; exact at0_of hxl.out
    have HR : Hid (revOk xs = ((inB 0 71 u && inB 0 71 v) && iPath xs (u + 1) (v + 1) 72)) := by
      unfold Hid revOk; rw [hl.out, HL.out, decide_eq_true hpos, Bool.true_and]
    by_cases hu : inB 0 71 u = true
    · by_cases hv : inB 0 71 v = true
      · obtain ⟨hu0, hu1⟩ := inB_iff.1 hu
        obtain ⟨hv0, hv1⟩ := inB_iff.1 hv
        have hN1 : I64 (u + 1) := ⟨by omega, by omega⟩
        have hM1 : I64 (v + 1) := ⟨by omega, by omega⟩
        have hB1 : I64 72 := ⟨by omega, by omega⟩
        have B1 := Cell2.new w u v 92
        have hra : RdL c2 2 (w.alloc (.cells #[.int .i64 u, .int .i64 v] 92)) (w.alloc (.cells #[.int .i64 u, .int .i64 v] 92)).heap.size (some ⟨b, off, none⟩) n c xs := hr.on ((Below.refl _ _).alloc (Nat.le_refl _) _)
        have hba : Below w.heap.size w (w.alloc (.cells #[.int .i64 u, .int .i64 v] 92)) := (Below.refl _ _).alloc (Nat.le_refl _) _
        by_cases hp : iPath xs (u + 1) (v + 1) 72 = true
        · have Hp := Lib.hid hp
          have HR1 : Hid (revOk xs = true) := by unfold Hid; rw [HR.out, hu, hv, Hp.out]; rfl
          go_enter Try.func28, Try.ntmps28
          go_wp2_with (first | (go_at_call 70; with_reducible refine (l00In_any _ _ _ _).mono ?_; rintro e w' ⟨rfl, rfl⟩) | (go_at_call 71; with_reducible refine (l09Path_in _ _ _ xs _ _ _ _ hra hn G.out hN1 hM1 hB1 (by omega) (by omega)).mono ?_; rintro e w1 ⟨rfl, hb1⟩))
          have hr1 := hra.on hb1
          obtain ⟨a0, a1⟩ := B1.on hb1
          have hb0 := below_on hb1 hba
          have hlt1 : w.heap.size < w1.heap.size := by have := hb1.size; simp at this; omega
          clear hr hra hba B1 hp hu hv p0 p1 hb1
          go_loopw [6, 7] (fun q i wr => ∃ (m c' : Nat) (A' : Option Addr), m ≤ n ∧ i = .int .i64 ((m : Int) - 1) ∧ q = .slice A' (n - m) c' ∧ Below w1.heap.size w1 wr ∧ wr.ownsRow w1.heap.size 92 2 (.slice A' (n - m) c') (n - m) (((xs.drop m).reverse.map (sub1 (u, v))).flatMap c2)) (fun _ i _ => (intOf i + 1).toNat)
          case atStart => exact ⟨n, 0, _, by omega, by go_num, by rw [Nat.sub_self], (by repeat (first | exact Below.refl _ _ | assumption | refine Below.drew ?_ | refine below_drewN ?_ _ | refine Below.alloc ?_ (by first | omega | (simp <;> omega)) _ | refine Below.setCell ?_ (by first | omega | (simp <;> omega)) _)), by rw [Nat.sub_self, List.drop_eq_nil_of_le (by have := hl.out; omega)]; exact (by simpa using World.ownsRow_lit (base := w1.heap.size) (e := 92) (size := 2) w1 #[] 0 (Nat.le_refl _) (by simp [maxLen]) rfl)⟩
          case round =>
            obtain ⟨m, c', A', hk, rfl, rfl, hb, hw⟩ := hrel
            by_cases hlt : 0 < m
            · obtain ⟨k, rfl⟩ : ∃ k, m = k + 1 := ⟨m - 1, by omega⟩
              rw [show (((k + 1 : Nat) : Int) - 1) = (k : Int) by omega]
              obtain ⟨_, _, x, y, e1, hbl1, hx, q0, q1⟩ := (hr1.below hb).at2 (show k < n by omega)
              cases e1
              obtain ⟨⟨hx0, hx1⟩, ⟨hy0, hy1⟩⟩ := iPath_bd G.out (by rw [hl.out]; exact hn) Hp.out k hx.out
              have b0 := (hb.cell (p := ⟨w.heap.size, 0, none⟩) hlt1).trans a0
              have b1 := (hb.cell (p := ⟨w.heap.size, 1, none⟩) hlt1).trans a1
              have j1 : (k : Int) < (n : Int) := by omega
              have j2 : (0 : Int) ≤ (k : Int) := by omega
              have j3 : IntKind.i64.wrap (u - x) = u - x := IntWalk.i64_in _ (by omega)
              have j4 : IntKind.i64.wrap (v - y) = v - y := IntWalk.i64_in _ (by omega)
              clear hr1 a0 a1
              go_wp2
              go_region_held3 (fun w' => w'.cell? ⟨w.heap.size, 0, none⟩ = some (.int .i64 u) ∧ w'.cell? ⟨w.heap.size, 1, none⟩ = some (.int .i64 v) ∧ w'.cell? ⟨b, off + k * 2, none⟩ = some (.int .i64 x) ∧ w'.cell? ⟨b, off + k * 2 + 1, none⟩ = some (.int .i64 y))
                (first | exact ⟨b0, b1, q0, q1⟩ | go_keep | (go_split_ands; exact ⟨(hbw2.cell (p := ⟨w.heap.size, 0, none⟩) hlt1).trans ‹_›, (hbw2.cell (p := ⟨w.heap.size, 1, none⟩) hlt1).trans ‹_›, (hbw2.cell (p := ⟨b, off + k * 2, none⟩) hbl1).trans ‹_›, (hbw2.cell (p := ⟨b, off + k * 2 + 1, none⟩) hbl1).trans ‹_›⟩))
                ((refine step_one _ c2_len one2 (by rfl) (.tmp 45) (.tmp 63) 41 (by rfl) w1.heap.size 92 i0 _ Try.underlying41 hi hz0 hz1 hz2 rfl (by decide) (by decide) A' (n - (k + 1)) c' _ (by rfl) (hw.alloc _) wr.heap.size 1 (sub1 (u, v) (x, y)) (by rfl) (news2 (w := (wr.alloc (.cells #[.int .i64 (u - x), .int .i64 (v - y)] 92)).drew) (g := wr.heap.size) (x := u - x) (y := v - y) (Cell2.new wr (u - x) (v - y) 92)) (by omega) (by have := hb.size; simp; omega) ?_; intro A2 c2' w2 hw2 hbw2))
              go_split_ands
              clear j3 j4
              have hb2 : Below w1.heap.size w1 w2 := (Below.drew (Below.alloc hb hb.size _)).trans hbw2
              have ek : n - (k + 1) + 1 = n - k := by omega
              rw [ek] at hw2
              go_wp2
              refine ⟨⟨k, c2', A2, by omega, by go_num, by rw [ek], hb2, ?_⟩, by simp [intOf]⟩
              rw [rev_stepP hx.out, List.map_append, List.map_cons, List.map_nil]
              exact hw2
            · have hkn : m = 0 := by omega
              subst hkn
              clear hr1
              go_wp2
              go_ret2
              rw [List.drop_zero, Nat.sub_zero] at hw
              have e1 : revF xs = xs.reverse.map (sub1 (u, v)) := by unfold revF okL; rw [if_pos HR1.out, HL.out]
              have e2 : okE (revOk xs) = 0 := by unfold okE; rw [if_pos HR1.out]
              rw [e1, e2]
              exact ⟨A', n, c', rfl, own_mono hw (by omega), by rw [List.length_map, List.length_reverse]; exact hl.out, hn, below_on hb hb0⟩
        · have Hp : Hid (iPath xs (u + 1) (v + 1) 72 = false) := by simpa [Hid] using hp
          have hp' := Hp.out
          go_enter Try.func28, Try.ntmps28
          go_wp2_with (first | (go_at_call 70; with_reducible refine (l00In_any _ _ _ _).mono ?_; rintro e w' ⟨rfl, rfl⟩) | (go_at_call 71; with_reducible refine (l09Path_in _ _ _ xs _ _ _ _ hra hn G.out hN1 hM1 hB1 (by omega) (by omega)).mono ?_; rintro e w1 ⟨rfl, hb1⟩))
          go_ret2
          exact HN.out _ (below_on hb1 hba) (by rw [HR.out, Hp.out, Bool.and_false])
      · have Hv : Hid (inB 0 71 v = false) := by simpa [Hid] using hv
        have hv' := Hv.out
        clear hr
        go_enter Try.func28, Try.ntmps28
        go_wp2_with (first | (go_at_call 70; with_reducible refine (l00In_any _ _ _ _).mono ?_; rintro e w' ⟨rfl, rfl⟩))
        go_ret2
        exact HN.out _ (by repeat (first | exact Below.refl _ _ | assumption | refine Below.drew ?_ | refine below_drewN ?_ _ | refine Below.alloc ?_ (by first | omega | (simp <;> omega)) _ | refine Below.setCell ?_ (by first | omega | (simp <;> omega)) _)) (by rw [HR.out, Hv.out, Bool.and_false, Bool.false_and])
    · have Hu : Hid (inB 0 71 u = false) := by simpa [Hid] using hu
      have hu' := Hu.out
      clear hr
      go_enter Try.func28, Try.ntmps28
      go_wp2_with (first | (go_at_call 70; with_reducible refine (l00In_any _ _ _ _).mono ?_; rintro e w' ⟨rfl, rfl⟩))
      go_ret2
      exact HN.out _ (by repeat (first | exact Below.refl _ _ | assumption | refine Below.drew ?_ | refine below_drewN ?_ _ | refine Below.alloc ?_ (by first | omega | (simp <;> omega)) _ | refine Below.setCell ?_ (by first | omega | (simp <;> omega)) _)) (by rw [HR.out, Hu.out, Bool.false_and, Bool.false_and])
  · have h0 : n = 0 := by omega
    subst h0
    clear hr
    go_enter Try.func28, Try.ntmps28
    go_wp2
    go_ret2
    exact HN.out _ (Below.refl _ _) (by unfold revOk; rw [hl.out]; rfl)
end Go.Proofs.Ytpeganfbmffjbaa
