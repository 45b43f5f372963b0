/- InputOf. -/
import Derived.Test.YtadfaajdjdbonaaDc
import Derived.Test.YtadfaajdjdbonaaNd
import Derived.Test.YtadfaajdjdbonaaPm
import Derived.IntWalk
namespace Go.Proofs.Ytadfaajdjdbonaa
open Go.ChangeShapes Go.WideShapes Go.ChangeAt Go.RowKit
def bump (c : List Int) (j : Nat) : List Int := c.set j (c.getD j 0 + 1)
def cellOf (f : T3) : Nat := (8 + f.2.1 / 64 * 4 + f.1 / 64).toNat
def inStep (c : List Int) (f : T3) : List Int := bump (bump c f.2.2.toNat) (cellOf f)
def inL (xs : List T3) : List Int := xs.foldl inStep (List.replicate 25 0)
theorem bump_len (c : List Int) (j : Nat) : (bump c j).length = c.length := by simp [bump]
theorem bump_far {c : List Int} {i j : Nat} (h : i ≠ j) : (bump c i).getD j 0 = c.getD j 0 := by
  unfold bump; rw [List.getD_eq_getElem?_getD, List.getElem?_set_ne h, ← List.getD_eq_getElem?_getD]
theorem bump_bd {c : List Int} {m : Nat} (h : ∀ j, 0 ≤ c.getD j 0 ∧ c.getD j 0 ≤ m) (i : Nat) : ∀ j, 0 ≤ (bump c i).getD j 0 ∧ (bump c i).getD j 0 ≤ (m + 1 : Nat) := by
  intro j
  have h1 := h j
  have h2 := h i
  unfold bump
  rw [List.getD_eq_getElem?_getD, List.getElem?_set]
  split
  · rename_i e; subst e
    split
    · simp only [Option.getD_some]; omega
    · simp; omega
  · rw [← List.getD_eq_getElem?_getD]; omega
theorem inL_step {xs : List T3} {k : Nat} {f : T3} (h : xs[k]? = some f) : inL (xs.take (k + 1)) = inStep (inL (xs.take k)) f := fold_step h
theorem inL_all : ∀ (xs : List T3), (inL xs).length = 25 ∧ ∀ j, 0 ≤ (inL xs).getD j 0 ∧ (inL xs).getD j 0 ≤ (2 * xs.length : Nat) := by
  intro xs
  unfold inL
  have key : ∀ (ys : List T3) (l : List Int) (m : Nat), l.length = 25 → (∀ j, 0 ≤ l.getD j 0 ∧ l.getD j 0 ≤ m) → (ys.foldl inStep l).length = 25 ∧ ∀ j, 0 ≤ (ys.foldl inStep l).getD j 0 ∧ (ys.foldl inStep l).getD j 0 ≤ (m + 2 * ys.length : Nat) := by
    intro ys
    induction ys with
    | nil => intro l m hl h; exact ⟨hl, fun j => by simpa using h j⟩
    | cons y ys ih =>
      intro l m hl h
      obtain ⟨h1, h2⟩ := ih (inStep l y) (m + 2) (by unfold inStep; rw [bump_len, bump_len, hl]) (bump_bd (bump_bd h _) _)
      refine ⟨h1, fun j => ?_⟩
      have := h2 j
      simp only [List.foldl_cons, List.length_cons]
      omega
  obtain ⟨h1, h2⟩ := key xs (List.replicate 25 0) 0 (by simp) (by
    intro j
    rw [List.getD_eq_getElem?_getD, List.getElem?_replicate]
    split <;> simp)
  exact ⟨h1, fun j => by have := h2 j; omega⟩
def nmN (l : List Int) (g : Int → Int) (k : Nat) : List Int := (l.take k).map g ++ l.drop k
theorem nmN_len (l : List Int) (g : Int → Int) (k : Nat) : (nmN l g k).length = l.length := by unfold nmN; simp; omega
theorem nmN_zero (l : List Int) (g : Int → Int) : nmN l g 0 = l := by simp [nmN]
theorem nmN_at {l : List Int} {g : Int → Int} {k : Nat} (hk : k < l.length) : (nmN l g k).getD k 0 = l.getD k 0 := by
  unfold nmN
  rw [List.getD_eq_getElem?_getD, List.getElem?_append_right (by simp; omega)]
  simp [List.getD_eq_getElem?_getD, Nat.min_eq_left (Nat.le_of_lt hk)]
theorem nmN_step {l : List Int} {g : Int → Int} {k : Nat} (hk : k < l.length) : (nmN l g k).set k (g (l.getD k 0)) = nmN l g (k + 1) := by
  have hx : l[k]? = some (l[k]'hk) := List.getElem?_eq_getElem hk
  have hd := drop_of hx
  unfold nmN
  have hlen : ((l.take k).map g).length = k := by simp; omega
  rw [hd, map_step hx, getD_of hx, List.set_append_right _ _ (by omega), hlen, Nat.sub_self, List.set_cons_zero, List.append_assoc]
  rfl
def inG (n : Nat) (v : Int) : Int := nearD (256 * v) n
def inV (xs : List T3) : List Int := (nmN (inL xs) (inG xs.length) 24).set 24 256
theorem inV_len (xs : List T3) : (inV xs).length = 25 := by unfold inV; rw [List.length_set, nmN_len, (inL_all xs).1]
theorem inV_more (xs : List T3) : (nmN (inL xs) (inG xs.length) 25).set 24 256 = inV xs := by
  unfold inV; rw [← nmN_step (by rw [(inL_all xs).1]; decide), List.set_set]
def inF (xs : List T3) : List Int := okL (featsOk 384 xs) (inV xs)
set_option maxRecDepth 100000 in
set_option maxHeartbeats 4000000 in
theorem inputOf_any (A : Option Addr) (n c : Nat) (xs : List T3) (w : World) (hr : RdL c3 3 w w.heap.size A n c xs) (hok : featsOk 384 xs = true) :
    Calls Try.prog 83 #[.slice A n c] w fun e w' => e = .returned (.slice (some ⟨w.heap.size, 0, none⟩) 25 25) ∧ w'.ownsRow w.heap.size 2 1 (.slice (some ⟨w.heap.size, 0, none⟩) 25 25) 25 ((inV xs).flatMap c1) ∧ Below w.heap.size w w' := by
  have hl := Lib.hid hr.len
  have Hok := Lib.hid hok
  have hle := inB_iff.1 (Bool.and_eq_true_iff.1 hok).2
  rw [hr.len] at hle
  go_enter Try.func83, Try.ntmps83
  have hmk : ∀ w : World, (Instr.makeSlice 43 (.int .i64 25) (.int .i64 25)).run Try.prog w = .ok (.slice (some ⟨w.heap.size, 0, none⟩) 25 25) (w.alloc (.cells #[.int .i64 0, .int .i64 0, .int .i64 0, .int .i64 0, .int .i64 0, .int .i64 0, .int .i64 0, .int .i64 0, .int .i64 0, .int .i64 0, .int .i64 0, .int .i64 0, .int .i64 0, .int .i64 0, .int .i64 0, .int .i64 0, .int .i64 0, .int .i64 0, .int .i64 0, .int .i64 0, .int .i64 0, .int .i64 0, .int .i64 0, .int .i64 0, .int .i64 0] 2)) := fun _ => by kernel_rfl
  have hown : (w.alloc (.cells #[.int .i64 0, .int .i64 0, .int .i64 0, .int .i64 0, .int .i64 0, .int .i64 0, .int .i64 0, .int .i64 0, .int .i64 0, .int .i64 0, .int .i64 0, .int .i64 0, .int .i64 0, .int .i64 0, .int .i64 0, .int .i64 0, .int .i64 0, .int .i64 0, .int .i64 0, .int .i64 0, .int .i64 0, .int .i64 0, .int .i64 0, .int .i64 0, .int .i64 0] 2)).ownsRow w.heap.size 2 1 (.slice (some ⟨w.heap.size, 0, none⟩) 25 25) 25 ((inL []).flatMap c1) :=
    World.ownsRow_lit (base := w.heap.size) (e := 2) (size := 1) w #[.int .i64 0, .int .i64 0, .int .i64 0, .int .i64 0, .int .i64 0, .int .i64 0, .int .i64 0, .int .i64 0, .int .i64 0, .int .i64 0, .int .i64 0, .int .i64 0, .int .i64 0, .int .i64 0, .int .i64 0, .int .i64 0, .int .i64 0, .int .i64 0, .int .i64 0, .int .i64 0, .int .i64 0, .int .i64 0, .int .i64 0, .int .i64 0, .int .i64 0] 25 (Nat.le_refl _) (by simp [maxLen]) rfl
  go_wp2
  clear hmk hok
  go_loopw [11] (fun i wr => ∃ k : Nat, k ≤ n ∧ i = .int .i64 k ∧ Below w.heap.size w wr ∧ wr.ownsRow w.heap.size 2 1 (.slice (some ⟨w.heap.size, 0, none⟩) 25 25) 25 ((inL (xs.take k)).flatMap c1)) (fun i _ => n - (intOf i).toNat)
  case atStart => exact ⟨0, by omega, rfl, (Below.refl _ _).alloc (Nat.le_refl _) _, hown⟩
  case round =>
    obtain ⟨k, hk, rfl, hb, hw⟩ := hrel
    clear hown
    by_cases hlt : k < n
    · obtain ⟨b, off, x, y, d, rfl, hbl, hx, q0, q1, q2⟩ := (hr.below hb).at3 hlt
      obtain ⟨⟨hx0, hx1⟩, ⟨hy0, hy1⟩, ⟨hd0, hd1⟩⟩ := featB_iff.1 (show featB x y d = true from all_at (p := featOk) (x := (x, y, d)) (Bool.and_eq_true_iff.1 Hok.out).1 hx.out)
      obtain ⟨xq, hxq⟩ : ∃ xq, x / 64 = xq := ⟨_, rfl⟩
      obtain ⟨yq, hyq⟩ : ∃ yq, y / 64 = yq := ⟨_, rfl⟩
      have t1 : x.tdiv 64 = xq := by rw [Int.tdiv_eq_ediv_of_nonneg hx0]; exact hxq
      have t2 : y.tdiv 64 = yq := by rw [Int.tdiv_eq_ediv_of_nonneg hy0]; exact hyq
      have x0 : 0 ≤ xq := by omega
      have x3 : xq ≤ 3 := by omega
      have y0 : 0 ≤ yq := by omega
      have y3 : yq ≤ 3 := by omega
      obtain ⟨j, hj⟩ : ∃ j : Nat, 8 + yq * 4 + xq = j := ⟨(8 + yq * 4 + xq).toNat, by omega⟩
      have HJ : Hid (cellOf (x, y, d) = j) := by show _ = _; unfold cellOf; simp only; rw [hyq, hxq, hj]; rfl
      have w1' : IntKind.i64.wrap (yq * 4) = yq * 4 := IntWalk.i64_in _ (by omega)
      have w2' : IntKind.i64.wrap (8 + yq * 4) = 8 + yq * 4 := IntWalk.i64_in _ (by omega)
      have w3' : IntKind.i64.wrap (8 + yq * 4 + xq) = (j : Int) := by rw [hj]; exact IntWalk.i64_in _ (by omega)
      have w4' : IntKind.i64.wrap xq = xq := IntWalk.i64_in _ (by omega)
      have w5' : IntKind.i64.wrap yq = yq := IntWalk.i64_in _ (by omega)
      have j25 : (j : Int) < 25 := by omega
      have j25' : j < 25 := by omega
      have n1 : ¬ d.toNat = j := by omega
      have n2 : ¬ j = d.toNat := by omega
      obtain ⟨e0, f0⟩ := own1_cell hw (j := d.toNat) (by omega)
      obtain ⟨e1, f1⟩ := own1_cell hw (j := j) (by omega)
      have hbd := (inL_all (xs.take k)).2 d.toNat
      have hbd' := (inL_all (xs.take k)).2 j
      have hlk : (xs.take k).length ≤ 384 := by rw [List.length_take]; omega
      have HS : Hid (inL (xs.take (k + 1)) = ((inL (xs.take k)).set d.toNat ((inL (xs.take k)).getD d.toNat 0 + 1)).set j ((inL (xs.take k)).getD j 0 + 1)) := by
        show _ = _
        rw [inL_step hx.out]
        unfold inStep
        rw [HJ.out]
        have h9 : (bump (inL (xs.take k)) d.toNat).getD j 0 = (inL (xs.take k)).getD j 0 := bump_far n1
        show (bump (inL (xs.take k)) d.toNat).set j ((bump (inL (xs.take k)) d.toNat).getD j 0 + 1) = _
        rw [h9]; rfl
      have hsz := hb.size
      have hgz : w.heap.size < wr.heap.size := World.block_lt_of_cell? (w := wr) (a := ⟨w.heap.size, d.toNat, none⟩) e0
      have i1 : (k : Int) < (n : Int) := by omega
      have i2 : (0 : Int) ≤ (k : Int) := by omega
      generalize hv : (inL (xs.take k)).getD d.toNat 0 = v at *
      generalize hv' : (inL (xs.take k)).getD j 0 = v' at *
      have w6' : IntKind.i64.wrap (v + 1) = v + 1 := IntWalk.i64_in _ (by omega)
      have w7' : IntKind.i64.wrap (v' + 1) = v' + 1 := IntWalk.i64_in _ (by omega)
      have HW := Lib.hid hw
      have HD := Lib.hid hd0
      clear hr hbd hbd' hv hv' hxq hyq hj hw
      replace hbl : b < wr.heap.size := by omega
      go_wp2
      refine ⟨⟨k + 1, by omega, by go_num, (by repeat (first | exact Below.refl _ _ | assumption | refine Below.drew ?_ | refine below_drewN ?_ _ | refine Below.alloc ?_ (by first | omega | (simp <;> omega)) _ | refine Below.setCell ?_ (by first | omega | (simp <;> omega)) _)), ?_⟩, by simp [intOf]; omega⟩
      rw [HS.out]
      exact (own1_set (own1_set HW.out _ _) _ _).alloc _
    · have hkn : k = n := by omega
      subst hkn
      rw [List.take_of_length_le (by have := hl.out; omega)] at hw
      have hgz : w.heap.size < wr.heap.size := by have e9 := (own1_cell hw (j := 0) (by omega)).1; exact World.block_lt_of_cell? (w := wr) (a := ⟨w.heap.size, 0, none⟩) e9
      have HI := Lib.hid (inL_all xs)
      have HW := Lib.hid hw
      clear hr hw
      go_wp2
      go_loopw [41] (fun i wi => ∃ m : Nat, m ≤ 25 ∧ i = .int .i64 m ∧ Below w.heap.size w wi ∧ wi.ownsRow w.heap.size 2 1 (.slice (some ⟨w.heap.size, 0, none⟩) 25 25) 25 ((nmN (inL xs) (inG k) m).flatMap c1)) (fun i _ => 25 - (intOf i).toNat)
      case atStart => exact ⟨0, by omega, rfl, hb, by rw [nmN_zero]; exact HW.out⟩
      case round =>
        obtain ⟨m, hm, rfl, hbi, hwi⟩ := hrel
        clear hb
        by_cases hlm : m < 25
        · obtain ⟨e0, f0⟩ := own1_cell hwi (j := m) (by omega)
          have HN := Lib.hid (nmN_step (g := inG k) (show m < (inL xs).length by rw [HI.out.1]; omega))
          rw [nmN_at (by rw [HI.out.1]; omega)] at e0
          have hbd := HI.out.2 m
          rw [hl.out] at hbd
          have HV : Hid (inG k ((inL xs).getD m 0) = nearD (256 * (inL xs).getD m 0) k) := Lib.hid rfl
          generalize (inL xs).getD m 0 = v at *
          have i1 : (m : Int) < 25 := by omega
          have i2 : (0 : Int) ≤ (m : Int) := by omega
          have i3 : (m : Int) < 25 := by omega
          have i4 : m < 25 := by omega
          have w1' : IntKind.i64.wrap (256 * v) = 256 * v := IntWalk.i64_in _ (by omega)
          have w2' : IntKind.i64.wrap (v * 256) = 256 * v := by rw [Int.mul_comm]; exact w1'
          have HWI := Lib.hid hwi
          have hgz2 := World.block_lt_of_cell? (w := wr) (a := ⟨w.heap.size, m, none⟩) e0
          clear hwi
          go_wp2_with (first | (go_at_call 105; with_reducible refine (nearestDiv_any _ _ _ (by omega) (by omega) (by omega) (by omega)).mono ?_; rintro e w' ⟨rfl, rfl⟩))
          refine ⟨⟨m + 1, by omega, by go_num, (by repeat (first | exact Below.refl _ _ | assumption | refine Below.drew ?_ | refine below_drewN ?_ _ | refine Below.alloc ?_ (by first | omega | (simp <;> omega)) _ | refine Below.setCell ?_ (by first | omega | (simp <;> omega)) _)), ?_⟩, by simp [intOf]; omega⟩
          rw [← HN.out, HV.out]
          exact own1_set HWI.out _ _
        · have hmn : m = 25 := by omega
          subst hmn
          obtain ⟨e0, f0⟩ := own1_cell hwi (j := 24) (by omega)
          have HWI := Lib.hid hwi
          clear hwi
          go_wp2
          go_ret
          refine ⟨rfl, ?_, (by repeat (first | exact Below.refl _ _ | assumption | refine Below.drew ?_ | refine below_drewN ?_ _ | refine Below.alloc ?_ (by first | omega | (simp <;> omega)) _ | refine Below.setCell ?_ (by first | omega | (simp <;> omega)) _))⟩
          have h9 := own1_set HWI.out 24 256
          rw [← hl.out] at h9
          rw [inV_more] at h9
          exact h9
set_option maxRecDepth 100000 in
set_option maxHeartbeats 4000000 in
theorem l12Input_any (A : Option Addr) (n c : Nat) (xs : List T3) (w : World) (hr : RdL c3 3 w w.heap.size A n c xs) (hok : featsOk 384 xs = true) :
    Calls Try.prog 80 #[.slice A n c] w fun e w' => e = .returned (.slice (some ⟨w.heap.size, 0, none⟩) 25 25) ∧ w'.ownsRow w.heap.size 2 1 (.slice (some ⟨w.heap.size, 0, none⟩) 25 25) 25 ((inV xs).flatMap c1) ∧ Below w.heap.size w w' := by
  have hl := Lib.hid hr.len
  have Hok := Lib.hid hok
  have hle := inB_iff.1 (Bool.and_eq_true_iff.1 hok).2
  rw [hr.len] at hle
  go_enter Try.func80, Try.ntmps80
  have hmk : ∀ w : World, (Instr.makeSlice 43 (.int .i64 25) (.int .i64 25)).run Try.prog w = .ok (.slice (some ⟨w.heap.size, 0, none⟩) 25 25) (w.alloc (.cells #[.int .i64 0, .int .i64 0, .int .i64 0, .int .i64 0, .int .i64 0, .int .i64 0, .int .i64 0, .int .i64 0, .int .i64 0, .int .i64 0, .int .i64 0, .int .i64 0, .int .i64 0, .int .i64 0, .int .i64 0, .int .i64 0, .int .i64 0, .int .i64 0, .int .i64 0, .int .i64 0, .int .i64 0, .int .i64 0, .int .i64 0, .int .i64 0, .int .i64 0] 2)) := fun _ => by kernel_rfl
  have hown : (w.alloc (.cells #[.int .i64 0, .int .i64 0, .int .i64 0, .int .i64 0, .int .i64 0, .int .i64 0, .int .i64 0, .int .i64 0, .int .i64 0, .int .i64 0, .int .i64 0, .int .i64 0, .int .i64 0, .int .i64 0, .int .i64 0, .int .i64 0, .int .i64 0, .int .i64 0, .int .i64 0, .int .i64 0, .int .i64 0, .int .i64 0, .int .i64 0, .int .i64 0, .int .i64 0] 2)).ownsRow w.heap.size 2 1 (.slice (some ⟨w.heap.size, 0, none⟩) 25 25) 25 ((inL []).flatMap c1) :=
    World.ownsRow_lit (base := w.heap.size) (e := 2) (size := 1) w #[.int .i64 0, .int .i64 0, .int .i64 0, .int .i64 0, .int .i64 0, .int .i64 0, .int .i64 0, .int .i64 0, .int .i64 0, .int .i64 0, .int .i64 0, .int .i64 0, .int .i64 0, .int .i64 0, .int .i64 0, .int .i64 0, .int .i64 0, .int .i64 0, .int .i64 0, .int .i64 0, .int .i64 0, .int .i64 0, .int .i64 0, .int .i64 0, .int .i64 0] 25 (Nat.le_refl _) (by simp [maxLen]) rfl
  go_wp2
  clear hmk hok
  go_loopw [4] (fun i wr => ∃ k : Nat, k ≤ n ∧ i = .int .i64 k ∧ Below w.heap.size w wr ∧ wr.ownsRow w.heap.size 2 1 (.slice (some ⟨w.heap.size, 0, none⟩) 25 25) 25 ((inL (xs.take k)).flatMap c1)) (fun i _ => n - (intOf i).toNat)
  case atStart => exact ⟨0, by omega, rfl, (Below.refl _ _).alloc (Nat.le_refl _) _, hown⟩
  case round =>
    obtain ⟨k, hk, rfl, hb, hw⟩ := hrel
    clear hown
    by_cases hlt : k < n
    · obtain ⟨b, off, x, y, d, rfl, hbl, hx, q0, q1, q2⟩ := (hr.below hb).at3 hlt
      obtain ⟨⟨hx0, hx1⟩, ⟨hy0, hy1⟩, ⟨hd0, hd1⟩⟩ := featB_iff.1 (show featB x y d = true from all_at (p := featOk) (x := (x, y, d)) (Bool.and_eq_true_iff.1 Hok.out).1 hx.out)
      obtain ⟨xq, hxq⟩ : ∃ xq, x / 64 = xq := ⟨_, rfl⟩
      obtain ⟨yq, hyq⟩ : ∃ yq, y / 64 = yq := ⟨_, rfl⟩
      have t1 : x.tdiv 64 = xq := by rw [Int.tdiv_eq_ediv_of_nonneg hx0]; exact hxq
      have t2 : y.tdiv 64 = yq := by rw [Int.tdiv_eq_ediv_of_nonneg hy0]; exact hyq
      have x0 : 0 ≤ xq := by omega
      have x3 : xq ≤ 3 := by omega
      have y0 : 0 ≤ yq := by omega
      have y3 : yq ≤ 3 := by omega
      obtain ⟨j, hj⟩ : ∃ j : Nat, 8 + yq * 4 + xq = j := ⟨(8 + yq * 4 + xq).toNat, by omega⟩
      have HJ : Hid (cellOf (x, y, d) = j) := by show _ = _; unfold cellOf; simp only; rw [hyq, hxq, hj]; rfl
      have w1' : IntKind.i64.wrap (yq * 4) = yq * 4 := IntWalk.i64_in _ (by omega)
      have w2' : IntKind.i64.wrap (8 + yq * 4) = 8 + yq * 4 := IntWalk.i64_in _ (by omega)
      have w3' : IntKind.i64.wrap (8 + yq * 4 + xq) = (j : Int) := by rw [hj]; exact IntWalk.i64_in _ (by omega)
      have w4' : IntKind.i64.wrap xq = xq := IntWalk.i64_in _ (by omega)
      have w5' : IntKind.i64.wrap yq = yq := IntWalk.i64_in _ (by omega)
      have j25 : (j : Int) < 25 := by omega
      have j25' : j < 25 := by omega
      have n1 : ¬ d.toNat = j := by omega
      have n2 : ¬ j = d.toNat := by omega
      obtain ⟨e0, f0⟩ := own1_cell hw (j := d.toNat) (by omega)
      obtain ⟨e1, f1⟩ := own1_cell hw (j := j) (by omega)
      have hbd := (inL_all (xs.take k)).2 d.toNat
      have hbd' := (inL_all (xs.take k)).2 j
      have hlk : (xs.take k).length ≤ 384 := by rw [List.length_take]; omega
      have HS : Hid (inL (xs.take (k + 1)) = ((inL (xs.take k)).set d.toNat ((inL (xs.take k)).getD d.toNat 0 + 1)).set j ((inL (xs.take k)).getD j 0 + 1)) := by
        show _ = _
        rw [inL_step hx.out]
        unfold inStep
        rw [HJ.out]
        have h9 : (bump (inL (xs.take k)) d.toNat).getD j 0 = (inL (xs.take k)).getD j 0 := bump_far n1
        show (bump (inL (xs.take k)) d.toNat).set j ((bump (inL (xs.take k)) d.toNat).getD j 0 + 1) = _
        rw [h9]; rfl
      have hsz := hb.size
      have hgz : w.heap.size < wr.heap.size := World.block_lt_of_cell? (w := wr) (a := ⟨w.heap.size, d.toNat, none⟩) e0
      have i1 : (k : Int) < (n : Int) := by omega
      have i2 : (0 : Int) ≤ (k : Int) := by omega
      generalize hv : (inL (xs.take k)).getD d.toNat 0 = v at *
      generalize hv' : (inL (xs.take k)).getD j 0 = v' at *
      have w6' : IntKind.i64.wrap (v + 1) = v + 1 := IntWalk.i64_in _ (by omega)
      have w7' : IntKind.i64.wrap (v' + 1) = v' + 1 := IntWalk.i64_in _ (by omega)
      have HW := Lib.hid hw
      have HD := Lib.hid hd0
      clear hr hbd hbd' hv hv' hxq hyq hj hw
      replace hbl : b < wr.heap.size := by omega
      go_wp2
      refine ⟨⟨k + 1, by omega, by go_num, (by repeat (first | exact Below.refl _ _ | assumption | refine Below.drew ?_ | refine below_drewN ?_ _ | refine Below.alloc ?_ (by first | omega | (simp <;> omega)) _ | refine Below.setCell ?_ (by first | omega | (simp <;> omega)) _)), ?_⟩, by simp [intOf]; omega⟩
      rw [HS.out]
      exact (own1_set (own1_set HW.out _ _) _ _).alloc _
    · have hkn : k = n := by omega
      subst hkn
      rw [List.take_of_length_le (by have := hl.out; omega)] at hw
      have hgz : w.heap.size < wr.heap.size := by have e9 := (own1_cell hw (j := 0) (by omega)).1; exact World.block_lt_of_cell? (w := wr) (a := ⟨w.heap.size, 0, none⟩) e9
      have HI := Lib.hid (inL_all xs)
      have HW := Lib.hid hw
      clear hr hw
      go_wp2
      go_loopw [7] (fun i wi => ∃ m : Nat, m ≤ 24 ∧ i = .int .i64 m ∧ Below w.heap.size w wi ∧ wi.ownsRow w.heap.size 2 1 (.slice (some ⟨w.heap.size, 0, none⟩) 25 25) 25 ((nmN (inL xs) (inG k) m).flatMap c1)) (fun i _ => 24 - (intOf i).toNat)
      case atStart => exact ⟨0, by omega, rfl, hb, by rw [nmN_zero]; exact HW.out⟩
      case round =>
        obtain ⟨m, hm, rfl, hbi, hwi⟩ := hrel
        clear hb
        by_cases hlm : m < 24
        · obtain ⟨e0, f0⟩ := own1_cell hwi (j := m) (by omega)
          have HN := Lib.hid (nmN_step (g := inG k) (show m < (inL xs).length by rw [HI.out.1]; omega))
          rw [nmN_at (by rw [HI.out.1]; omega)] at e0
          have hbd := HI.out.2 m
          rw [hl.out] at hbd
          have HV : Hid (inG k ((inL xs).getD m 0) = nearD (256 * (inL xs).getD m 0) k) := Lib.hid rfl
          generalize (inL xs).getD m 0 = v at *
          have i1 : (m : Int) < 24 := by omega
          have i2 : (0 : Int) ≤ (m : Int) := by omega
          have i3 : (m : Int) < 25 := by omega
          have i4 : m < 25 := by omega
          have w1' : IntKind.i64.wrap (256 * v) = 256 * v := IntWalk.i64_in _ (by omega)
          have w2' : IntKind.i64.wrap (v * 256) = 256 * v := by rw [Int.mul_comm]; exact w1'
          have HWI := Lib.hid hwi
          have hgz2 := World.block_lt_of_cell? (w := wr) (a := ⟨w.heap.size, m, none⟩) e0
          clear hwi
          go_wp2_with (first | (go_at_call 126; with_reducible refine (l05Near_any _ _ _ (by omega) (by omega) (by omega) (by omega)).mono ?_; rintro e w' ⟨rfl, rfl⟩))
          refine ⟨⟨m + 1, by omega, by go_num, (by repeat (first | exact Below.refl _ _ | assumption | refine Below.drew ?_ | refine below_drewN ?_ _ | refine Below.alloc ?_ (by first | omega | (simp <;> omega)) _ | refine Below.setCell ?_ (by first | omega | (simp <;> omega)) _)), ?_⟩, by simp [intOf]; omega⟩
          rw [← HN.out, HV.out]
          exact own1_set HWI.out _ _
        · have hmn : m = 24 := by omega
          subst hmn
          obtain ⟨e0, f0⟩ := own1_cell hwi (j := 24) (by omega)
          have HWI := Lib.hid hwi
          clear hwi
          go_wp2
          go_ret
          refine ⟨rfl, ?_, (by repeat (first | exact Below.refl _ _ | assumption | refine Below.drew ?_ | refine below_drewN ?_ _ | refine Below.alloc ?_ (by first | omega | (simp <;> omega)) _ | refine Below.setCell ?_ (by first | omega | (simp <;> omega)) _))⟩
          have h9 := own1_set HWI.out 24 256
          rw [← hl.out] at h9
          skip
          exact h9
set_option maxHeartbeats 1000000 in
theorem iInput_any (A : Option Addr) (n c : Nat) (xs : List T3) (w : World) (hr : RdL c3 3 w w.heap.size A n c xs) (hn : n ≤ 1048576) :
    Calls Try.prog 27 #[.slice A n c] w fun e w' => ∃ A' n' c', e = .returned (.tuple #[.slice A' n' c', .int .i64 (okE (featsOk 384 xs))]) ∧ w'.ownsRow w.heap.size 2 1 (.slice A' n' c') n' ((inF xs).flatMap c1) ∧
      (inF xs).length = n' ∧ n' ≤ 1048576 ∧ Below w.heap.size w w' := by
  go_enter Try.func27, Try.ntmps27
  go_wp2_with fail
  with_reducible refine (iValidFeats_any _ _ _ _ _ hr hn).mono ?_
  rintro e w1 ⟨rfl, hb1⟩
  replace hr := hr.on hb1
  cases hok : featsOk 384 xs with
  | false =>
    have e1 : inF xs = [] := by unfold inF okL; rw [if_neg (by rw [hok]; decide)]
    clear hr
    go_wp2
    go_ret2
    rw [e1]
    exact ⟨none, 0, 0, by simp [okE, hok], World.ownsRow_nil _ _ _ _, rfl, by decide, hb1⟩
  | true =>
    have Hok := Lib.hid hok
    have e1 : inF xs = inV xs := by unfold inF okL; rw [if_pos hok]
    have HR := Lib.hid hr
    clear hr
    go_wp2_with fail
    with_reducible refine (inputOf_any _ _ _ xs _ HR.out Hok.out).mono ?_
    rintro e w2 ⟨rfl, o2, hb2⟩
    clear hok
    have e2 : okE (featsOk 384 xs) = 0 := by unfold okE; rw [if_pos Hok.out]
    go_wp2
    go_ret2
    rw [e1, e2]
    exact ⟨_, 25, 25, rfl, own_mono o2 hb1.size, inV_len xs, by omega, below_on hb2 hb1⟩
set_option maxHeartbeats 1000000 in
theorem sInput_any (A : Option Addr) (n c : Nat) (xs : List T3) (w : World) (hr : RdL c3 3 w w.heap.size A n c xs) (hn : n ≤ 1048576) :
    Calls Try.prog 25 #[.slice A n c] w fun e w' => ∃ A' n' c', e = .returned (.tuple #[.slice A' n' c', .int .i64 (okE (featsOk 384 xs))]) ∧ w'.ownsRow w.heap.size 2 1 (.slice A' n' c') n' ((inF xs).flatMap c1) ∧
      (inF xs).length = n' ∧ n' ≤ 1048576 ∧ Below w.heap.size w w' := by
  go_enter Try.func25, Try.ntmps25
  go_wp2_with fail
  with_reducible refine (l08Ok_any _ _ _ _ _ hr hn).mono ?_
  rintro e w1 ⟨rfl, hb1⟩
  replace hr := hr.on hb1
  cases hok : featsOk 384 xs with
  | false =>
    have e1 : inF xs = [] := by unfold inF okL; rw [if_neg (by rw [hok]; decide)]
    clear hr
    go_wp2
    go_ret2
    rw [e1]
    exact ⟨none, 0, 0, by simp [okE, hok], World.ownsRow_nil _ _ _ _, rfl, by decide, hb1⟩
  | true =>
    have Hok := Lib.hid hok
    have e1 : inF xs = inV xs := by unfold inF okL; rw [if_pos hok]
    have HR := Lib.hid hr
    clear hr
    go_wp2_with fail
    with_reducible refine (l12Input_any _ _ _ xs _ HR.out Hok.out).mono ?_
    rintro e w2 ⟨rfl, o2, hb2⟩
    clear hok
    have e2 : okE (featsOk 384 xs) = 0 := by unfold okE; rw [if_pos Hok.out]
    go_wp2
    go_ret2
    rw [e1, e2]
    exact ⟨_, 25, 25, rfl, own_mono o2 hb1.size, inV_len xs, by omega, below_on hb2 hb1⟩
end Go.Proofs.Ytadfaajdjdbonaa
