/- The program's table of elastic matching: the steps back, and the least cost ahead of a place. -/
import Derived.Test.YtkldejbhhbgefaaEt
import Derived.IntWalk
namespace Go.Proofs.Ytkldejbhhbgefaa
open Go.ChangeShapes Go.WideShapes Go.ChangeAt Go.RowKit
abbrev steps3 : Value := .agg #[.int .i64 1, .int .i64 1, .int .i64 1, .int .i64 0, .int .i64 0, .int .i64 1]
theorem stepsBack_any (w : World) : Calls Try.prog 133 #[] w fun e w' => e = .returned steps3 ∧ Below w.heap.size w w' := by
  go_enter Try.func133, Try.ntmps133
  go_wp2
  exact bodyPost_ret (v := steps3) (by simp [results, Try.results133, go_sem]) rfl ⟨rfl, (by repeat (first | exact Below.refl _ _ | assumption | refine Below.drew ?_ | refine below_drewN ?_ _ | refine Below.alloc ?_ (by first | omega | (simp <;> omega)) _ | refine Below.setCell ?_ (by first | omega | (simp <;> omega)) _))⟩
/-- The least cost ahead of a place when k of the three steps back have been tried. -/
def lb1 (inf : Int) (F : Nat → Nat → Int) (i j : Nat) : Int := if 0 < i ∧ 0 < j then min inf (F (i - 1) (j - 1)) else inf
def lb2 (inf : Int) (F : Nat → Nat → Int) (i j : Nat) : Int := if 0 < i then min (lb1 inf F i j) (F (i - 1) j) else lb1 inf F i j
def lb3 (inf : Int) (F : Nat → Nat → Int) (i j : Nat) : Int := if 0 < j then min (lb2 inf F i j) (F i (j - 1)) else lb2 inf F i j
def lbP (inf : Int) (F : Nat → Nat → Int) (i j : Nat) : Nat → Int
  | 0 => inf
  | 1 => lb1 inf F i j
  | 2 => lb2 inf F i j
  | _ => lb3 inf F i j
theorem lbP_end (inf : Int) (F : Nat → Nat → Int) (i j : Nat) : lbP inf F i j 3 = lbF inf F i j := by
  show lb3 inf F i j = _
  match i, j with
  | 0, 0 => rfl
  | 0, j + 1 => simp [lb1, lb2, lb3, lbF]
  | i + 1, 0 => simp [lb1, lb2, lb3, lbF]
  | i + 1, j + 1 => simp [lb1, lb2, lb3, lbF]
/-- What the rows of a table show to a look at the places ahead of one. -/
def Ahd (w : World) (g m i j : Nat) (F : Nat → Nat → Int) : Prop :=
  (0 < i → ∃ bp cp, w.cell? ⟨g, i - 1, none⟩ = some (.slice (some ⟨bp, 0, none⟩) m cp) ∧ ∀ s, s < m → w.cell? ⟨bp, s, none⟩ = some (.int .i64 (F (i - 1) s))) ∧
  (0 < j → ∃ bc cc, w.cell? ⟨g, i, none⟩ = some (.slice (some ⟨bc, 0, none⟩) m cc) ∧ ∀ s, s < j → w.cell? ⟨bc, s, none⟩ = some (.int .i64 (F i s)))
set_option maxRecDepth 100000 in
set_option maxHeartbeats 20000000 in
theorem leastBefore_any (g n c m i j : Nat) (F : Nat → Nat → Int) (w : World) (hi : i < n) (hj : j < m) (hn : n ≤ 1048576) (hm : m ≤ 1048576) (hA : Ahd w g m i j F) :
    Calls Try.prog 130 #[.slice (some ⟨g, 0, none⟩) n c, .int .i64 i, .int .i64 j] w fun e w' => e = .returned (.int .i64 (lbF 1099511627776 F i j)) ∧ Below w.heap.size w w' := by
  have HA := Lib.hid hA
  clear hA
  have k0 : ∀ w, (Instr.index 159 steps3 (.int .i64 0)).run Try.prog w = .ok (.agg #[.int .i64 1, .int .i64 1]) w := fun _ => by kernel_rfl
  have k1 : ∀ w, (Instr.index 159 steps3 (.int .i64 1)).run Try.prog w = .ok (.agg #[.int .i64 1, .int .i64 0]) w := fun _ => by kernel_rfl
  have k2 : ∀ w, (Instr.index 159 steps3 (.int .i64 2)).run Try.prog w = .ok (.agg #[.int .i64 0, .int .i64 1]) w := fun _ => by kernel_rfl
  go_enter Try.func130, Try.ntmps130
  go_wp2_with fail
  with_reducible refine (stepsBack_any _).mono ?_
  rintro e w1 ⟨rfl, hbw1⟩
  go_wp2
  go_loopw [7, 11] (fun l q wr => ∃ k : Nat, k ≤ 3 ∧ q = .int .i64 k ∧ l = .int .i64 (lbP 1099511627776 F i j k) ∧ Below w.heap.size w wr) (fun _ q _ => 3 - (intOf q).toNat)
  case atStart => exact ⟨0, by omega, rfl, rfl, hbw1⟩
  case round =>
    clear hbw1
    obtain ⟨k, hk, rfl, rfl, hb⟩ := hrel
    have j0 : (0 : Int) ≤ (i : Int) := by omega
    have j1 : (i : Int) < (n : Int) := by omega
    have j2 : (0 : Int) ≤ (j : Int) := by omega
    have j3 : (j : Int) < (m : Int) := by omega
    match k, hk with
    | 3, _ =>
      go_wp2
      go_ret
      exact ⟨ret_int (lbP_end _ _ _ _), hb⟩
    | 0, _ =>
      obtain ⟨L, hL⟩ : ∃ L, Hid (lbP 1099511627776 F i j 0 = L) := ⟨_, rfl⟩
      rw [hL.out]
      clear k1 k2
      have zr : Below w.heap.size w (wr.alloc (.cells #[.int .i64 1, .int .i64 1] 158)) := hb.alloc hb.size _
      by_cases ci : 0 < i
      · have ci' : (1 : Int) ≤ (i : Int) := by omega
        by_cases cj : 0 < j
        · have cj' : (1 : Int) ≤ (j : Int) := by omega
          obtain ⟨bp, cp, h1, h2⟩ := HA.out.1 ci
          obtain ⟨v, hv⟩ : ∃ v, Hid (F (i - 1) (j - 1) = v) := ⟨_, rfl⟩
          have h3 := h2 (j - 1) (by omega)
          rw [hv.out] at h3
          replace h1 := cell_on2 hb h1
          replace h3 := cell_on2 hb h3
          have z1 := World.block_lt_of_cell? wr _ h1
          have z2 := World.block_lt_of_cell? wr _ h3
          simp only at z1 z2
          clear h2
          have HL : Hid (lbP 1099511627776 F i j 1 = min L v) := by unfold Hid; rw [← hL.out, ← hv.out]; show lb1 _ _ _ _ = _; unfold lb1; rw [if_pos (by omega)]; rfl
          have o1 : IntKind.i64.wrap ((i : Int) - 1) = (i : Int) - 1 := IntWalk.i64_in _ (by omega)
          have o2 : IntKind.i64.wrap ((j : Int) - 1) = (j : Int) - 1 := IntWalk.i64_in _ (by omega)
          have o3 : (0 : Int) ≤ (i : Int) - 1 := by omega
          have o4 : (i : Int) - 1 < (n : Int) := by omega
          have o5 : ((i : Int) - 1).toNat = i - 1 := by omega
          have o6 : (0 : Int) ≤ (j : Int) - 1 := by omega
          have o7 : (j : Int) - 1 < (m : Int) := by omega
          have o8 : ((j : Int) - 1).toNat = j - 1 := by omega
          by_cases hlt : v < L
          · have HM : Hid (min L v = v) := by unfold Hid; omega
            go_wp2
            go_quiet (fail)
            clear o1 o2 o5 o8
            go_wp2
            exact ⟨⟨1, by omega, by go_num, by rw [HL.out, HM.out], below_drewN zr _⟩, by simp [intOf]⟩
          · have hlt' : L ≤ v := by omega
            have HM : Hid (min L v = L) := by unfold Hid; omega
            clear hlt
            go_wp2
            go_quiet (fail)
            clear o1 o2 o5 o8
            go_wp2
            exact ⟨⟨1, by omega, by go_num, by rw [HL.out, HM.out], below_drewN zr _⟩, by simp [intOf]⟩
        · have cj' : (j : Int) < 1 := by omega
          have HL : Hid (lbP 1099511627776 F i j 1 = L) := by unfold Hid; rw [← hL.out]; show lb1 _ _ _ _ = _; unfold lb1; rw [if_neg (by omega)]; rfl
          go_wp2
          exact ⟨⟨1, by omega, by go_num, by rw [HL.out], zr⟩, by simp [intOf]⟩
      · have ci' : (i : Int) < 1 := by omega
        have HL : Hid (lbP 1099511627776 F i j 1 = L) := by unfold Hid; rw [← hL.out]; show lb1 _ _ _ _ = _; unfold lb1; rw [if_neg (by omega)]; rfl
        go_wp2
        exact ⟨⟨1, by omega, by go_num, by rw [HL.out], zr⟩, by simp [intOf]⟩
    | 1, _ =>
      obtain ⟨L, hL⟩ : ∃ L, Hid (lbP 1099511627776 F i j 1 = L) := ⟨_, rfl⟩
      rw [hL.out]
      clear k0 k2
      have zr : Below w.heap.size w (wr.alloc (.cells #[.int .i64 1, .int .i64 0] 158)) := hb.alloc hb.size _
      by_cases ci : 0 < i
      · have ci' : (1 : Int) ≤ (i : Int) := by omega
        obtain ⟨bp, cp, h1, h2⟩ := HA.out.1 ci
        obtain ⟨v, hv⟩ : ∃ v, Hid (F (i - 1) (j) = v) := ⟨_, rfl⟩
        have h3 := h2 (j) (by omega)
        rw [hv.out] at h3
        replace h1 := cell_on2 hb h1
        replace h3 := cell_on2 hb h3
        have z1 := World.block_lt_of_cell? wr _ h1
        have z2 := World.block_lt_of_cell? wr _ h3
        simp only at z1 z2
        clear h2
        have HL : Hid (lbP 1099511627776 F i j 2 = min L v) := by unfold Hid; rw [← hL.out, ← hv.out]; show lb2 _ _ _ _ = _; unfold lb2; rw [if_pos (by omega)]; rfl
        have o1 : IntKind.i64.wrap ((i : Int) - 1) = (i : Int) - 1 := IntWalk.i64_in _ (by omega)
        have o2 : IntKind.i64.wrap ((j : Int)) = (j : Int) := IntWalk.i64_in _ (by omega)
        have o3 : (0 : Int) ≤ (i : Int) - 1 := by omega
        have o4 : (i : Int) - 1 < (n : Int) := by omega
        have o5 : ((i : Int) - 1).toNat = i - 1 := by omega
        have o6 : (0 : Int) ≤ (j : Int) := by omega
        have o7 : (j : Int) < (m : Int) := by omega
        have o8 : ((j : Int)).toNat = j := by omega
        by_cases hlt : v < L
        · have HM : Hid (min L v = v) := by unfold Hid; omega
          go_wp2
          go_quiet (fail)
          clear o1 o2 o5 o8
          go_wp2
          exact ⟨⟨2, by omega, by go_num, by rw [HL.out, HM.out], below_drewN zr _⟩, by simp [intOf]⟩
        · have hlt' : L ≤ v := by omega
          have HM : Hid (min L v = L) := by unfold Hid; omega
          clear hlt
          go_wp2
          go_quiet (fail)
          clear o1 o2 o5 o8
          go_wp2
          exact ⟨⟨2, by omega, by go_num, by rw [HL.out, HM.out], below_drewN zr _⟩, by simp [intOf]⟩
      · have ci' : (i : Int) < 1 := by omega
        have HL : Hid (lbP 1099511627776 F i j 2 = L) := by unfold Hid; rw [← hL.out]; show lb2 _ _ _ _ = _; unfold lb2; rw [if_neg (by omega)]; rfl
        go_wp2
        exact ⟨⟨2, by omega, by go_num, by rw [HL.out], zr⟩, by simp [intOf]⟩
    | 2, _ =>
      obtain ⟨L, hL⟩ : ∃ L, Hid (lbP 1099511627776 F i j 2 = L) := ⟨_, rfl⟩
      rw [hL.out]
      clear k0 k1
      have zr : Below w.heap.size w (wr.alloc (.cells #[.int .i64 0, .int .i64 1] 158)) := hb.alloc hb.size _
      by_cases cj : 0 < j
      · have cj' : (1 : Int) ≤ (j : Int) := by omega
        obtain ⟨bp, cp, h1, h2⟩ := HA.out.2 cj
        obtain ⟨v, hv⟩ : ∃ v, Hid (F (i) (j - 1) = v) := ⟨_, rfl⟩
        have h3 := h2 (j - 1) (by omega)
        rw [hv.out] at h3
        replace h1 := cell_on2 hb h1
        replace h3 := cell_on2 hb h3
        have z1 := World.block_lt_of_cell? wr _ h1
        have z2 := World.block_lt_of_cell? wr _ h3
        simp only at z1 z2
        clear h2
        have HL : Hid (lbP 1099511627776 F i j 3 = min L v) := by unfold Hid; rw [← hL.out, ← hv.out]; show lb3 _ _ _ _ = _; unfold lb3; rw [if_pos (by omega)]; rfl
        have o1 : IntKind.i64.wrap ((i : Int)) = (i : Int) := IntWalk.i64_in _ (by omega)
        have o2 : IntKind.i64.wrap ((j : Int) - 1) = (j : Int) - 1 := IntWalk.i64_in _ (by omega)
        have o3 : (0 : Int) ≤ (i : Int) := by omega
        have o4 : (i : Int) < (n : Int) := by omega
        have o5 : ((i : Int)).toNat = i := by omega
        have o6 : (0 : Int) ≤ (j : Int) - 1 := by omega
        have o7 : (j : Int) - 1 < (m : Int) := by omega
        have o8 : ((j : Int) - 1).toNat = j - 1 := by omega
        by_cases hlt : v < L
        · have HM : Hid (min L v = v) := by unfold Hid; omega
          go_wp2
          go_quiet (fail)
          clear o1 o2 o5 o8
          go_wp2
          exact ⟨⟨3, by omega, by go_num, by rw [HL.out, HM.out], below_drewN zr _⟩, by simp [intOf]⟩
        · have hlt' : L ≤ v := by omega
          have HM : Hid (min L v = L) := by unfold Hid; omega
          clear hlt
          go_wp2
          go_quiet (fail)
          clear o1 o2 o5 o8
          go_wp2
          exact ⟨⟨3, by omega, by go_num, by rw [HL.out, HM.out], below_drewN zr _⟩, by simp [intOf]⟩
      · have cj' : (j : Int) < 1 := by omega
        have HL : Hid (lbP 1099511627776 F i j 3 = L) := by unfold Hid; rw [← hL.out]; show lb3 _ _ _ _ = _; unfold lb3; rw [if_neg (by omega)]; rfl
        go_wp2
        exact ⟨⟨3, by omega, by go_num, by rw [HL.out], zr⟩, by simp [intOf]⟩
end Go.Proofs.Ytkldejbhhbgefaa
