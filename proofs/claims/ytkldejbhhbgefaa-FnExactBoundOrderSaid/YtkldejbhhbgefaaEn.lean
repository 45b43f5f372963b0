/- Contracts of EndsBound: the cost of the first and of the last pair. -/
import Derived.Test.YtkldejbhhbgefaaMk
import Derived.Deep.RegionHeld3
namespace Go.Proofs.Ytkldejbhhbgefaa
open Go.ChangeShapes Go.WideShapes Go.ChangeAt Go.RowKit
def f0 (xs : List T3) : T3 := xs.headD (0, 0, 0)
def fl (xs : List T3) : T3 := xs.getLastD (0, 0, 0)
def endsF (a b : List T3) : Int := costF (f0 a) (f0 b) + (if 1 < a.length ∨ 1 < b.length then costF (fl a) (fl b) else 0)
def seqs2 (a b : List T3) : Bool := featsOk 72 a && featsOk 72 b
def endsV (a b : List T3) : Int := if seqs2 a b = true then endsF a b else 0
theorem f0_of {xs : List T3} {x : T3} (h : xs[0]? = some x) : f0 xs = x := by
  cases xs with
  | nil => simp at h
  | cons y ys => simpa [f0] using h
theorem fl_of {xs : List T3} {n : Nat} {x : T3} (hl : xs.length = n) (h : xs[n - 1]? = some x) : fl xs = x := by
  unfold fl; subst hl
  rw [List.getLastD_eq_getLast?, List.getLast?_eq_getElem?, h]; rfl
theorem cost_bd {a b : T3} (ha : featOk a = true) (hb : featOk b = true) : 0 ≤ costF a b ∧ costF a b ≤ 1000 := by
  obtain ⟨⟨a1, a2⟩, ⟨a3, a4⟩, ⟨a5, a6⟩⟩ := featB_iff.1 ha
  obtain ⟨⟨b1, b2⟩, ⟨b3, b4⟩, ⟨b5, b6⟩⟩ := featB_iff.1 hb
  unfold costF
  omega
theorem featsOk_all {m : Int} {xs : List T3} (h : featsOk m xs = true) : xs.all featOk = true := (Bool.and_eq_true_iff.1 h).1
theorem featsOk_len {m : Int} {xs : List T3} (h : featsOk m xs = true) : 1 ≤ (xs.length : Int) ∧ (xs.length : Int) ≤ m := inB_iff.1 (Bool.and_eq_true_iff.1 h).2
set_option maxHeartbeats 1000000 in
theorem l10Ends_any (A A' : Option Addr) (n c n' c' : Nat) (xs ys : List T3) (w : World) (hr : RdL c3 3 w w.heap.size A n c xs) (hr' : RdL c3 3 w w.heap.size A' n' c' ys) (hx : featsOk 72 xs = true) (hy : featsOk 72 ys = true) :
    Calls Try.prog 84 #[.slice A n c, .slice A' n' c'] w fun e w' => e = .returned (.int .i64 (endsF xs ys)) ∧ Below w.heap.size w w' := by
  have hl := Lib.hid hr.len
  have hl' := Lib.hid hr'.len
  have hn := featsOk_len hx
  have hn' := featsOk_len hy
  rw [hr.len] at hn
  rw [hr'.len] at hn'
  obtain ⟨b, off, x, y, d, rfl, hbl, ha0, q0, q1, q2⟩ := hr.at3 (k := 0) (by omega)
  obtain ⟨b', off', x', y', d', rfl, hbl', hb00, q0', q1', q2'⟩ := hr'.at3 (k := 0) (by omega)
  obtain ⟨_, _, u, v, t, e1, _, hau, p0, p1, p2⟩ := hr.at3 (k := n - 1) (by omega)
  cases e1
  obtain ⟨_, _, u', v', t', e1, _, hbu, p0', p1', p2'⟩ := hr'.at3 (k := n' - 1) (by omega)
  cases e1
  simp only [Nat.zero_mul, Nat.add_zero] at q0 q1 q2 q0' q1' q2'
  have k1 : featB x y d = true := all_at (p := featOk) (x := (x, y, d)) (featsOk_all hx) ha0.out
  have k2 : featB x' y' d' = true := all_at (p := featOk) (x := (x', y', d')) (featsOk_all hy) hb00.out
  have k3 : featB u v t = true := all_at (p := featOk) (x := (u, v, t)) (featsOk_all hx) hau.out
  have k4 : featB u' v' t' = true := all_at (p := featOk) (x := (u', v', t')) (featsOk_all hy) hbu.out
  have z1 := fun W => l09Cost_any x y d x' y' d' W k1 k2
  have Z1 := Lib.hid z1
  have z2 := fun W => l09Cost_any u v t u' v' t' W k3 k4
  have Z2 := Lib.hid z2
  have c1 := cost_bd (a := (x, y, d)) (b := (x', y', d')) k1 k2
  have c2 := cost_bd (a := (u, v, t)) (b := (u', v', t')) k3 k4
  have hN0 := hn.1
  have hN1 := hn.2
  have hM0 := hn'.1
  have hM1 := hn'.2
  have c10 := c1.1
  have c11 := c1.2
  have c20 := c2.1
  have c21 := c2.2
  generalize hC1 : costF (x, y, d) (x', y', d') = C1 at *
  generalize hC2 : costF (u, v, t) (u', v', t') = C2 at *
  have HC1 := Lib.hid hC1
  have HC2 := Lib.hid hC2
  clear hr hr' hx hy k1 k2 k3 k4 z1 z2 c1 c2 hn hn' hC1 hC2
  have hb0 : Below w.heap.size w w.drew := (Below.refl _ _).drew
  have i0 : 0 < n := by omega
  have i0' : 0 < n' := by omega
  have i1 : (0 : Int) ≤ (n : Int) - 1 := by omega
  have i1' : (0 : Int) ≤ (n' : Int) - 1 := by omega
  have i2 : (n : Int) - 1 < (n : Int) := by omega
  have i2' : (n' : Int) - 1 < (n' : Int) := by omega
  have i3 : ((n : Int) - 1).toNat = n - 1 := by omega
  have i3' : ((n' : Int) - 1).toNat = n' - 1 := by omega
  by_cases hone : (1 : Int) < (n : Int) ∨ (1 : Int) < (n' : Int)
  · have hE : Hid (endsF xs ys = C1 + C2) := by
      unfold Hid endsF; rw [if_pos (by rw [hl.out, hl'.out]; omega), f0_of ha0.out, f0_of hb00.out, fl_of hl.out hau.out, fl_of hl'.out hbu.out, HC1.out, HC2.out]
    have I3 := Lib.hid i3
    have I3' := Lib.hid i3'
    clear i3 i3'
    go_enter Try.func84, Try.ntmps84
    go_wp2_with fail
    go_region_held3 (fun w' => w'.cell? ⟨b, off, none⟩ = some (.int .i64 x) ∧ w'.cell? ⟨b, off + 1, none⟩ = some (.int .i64 y) ∧ w'.cell? ⟨b, off + 2, none⟩ = some (.int .i64 d) ∧ w'.cell? ⟨b', off', none⟩ = some (.int .i64 x') ∧ w'.cell? ⟨b', off' + 1, none⟩ = some (.int .i64 y') ∧ w'.cell? ⟨b', off' + 2, none⟩ = some (.int .i64 d') ∧ w'.cell? ⟨b, off + (n - 1) * 3, none⟩ = some (.int .i64 u) ∧ w'.cell? ⟨b, off + (n - 1) * 3 + 1, none⟩ = some (.int .i64 v) ∧ w'.cell? ⟨b, off + (n - 1) * 3 + 2, none⟩ = some (.int .i64 t) ∧ w'.cell? ⟨b', off' + (n' - 1) * 3, none⟩ = some (.int .i64 u') ∧ w'.cell? ⟨b', off' + (n' - 1) * 3 + 1, none⟩ = some (.int .i64 v') ∧ w'.cell? ⟨b', off' + (n' - 1) * 3 + 2, none⟩ = some (.int .i64 t') ∧ Below w.heap.size w w')
      (first | exact ⟨q0, q1, q2, q0', q1', q2', p0, p1, p2, p0', p1', p2', hb0⟩ | go_keep | (go_split_ands; exact ⟨cell_on2 hb1 ‹_›, cell_on2 hb1 ‹_›, cell_on2 hb1 ‹_›, cell_on2 hb1 ‹_›, cell_on2 hb1 ‹_›, cell_on2 hb1 ‹_›, cell_on2 hb1 ‹_›, cell_on2 hb1 ‹_›, cell_on2 hb1 ‹_›, cell_on2 hb1 ‹_›, cell_on2 hb1 ‹_›, cell_on2 hb1 ‹_›, below_on hb1 ‹_›⟩))
      ((go_at_call 106; with_reducible refine (Z1.out _).mono ?_; rintro e w1 ⟨rfl, hb1⟩))
    go_split_ands
    clear q0 q1 q2 q0' q1' q2' p0 p1 p2 p0' p1' p2' hb0
    have q0 := ‹w1.cell? ⟨b, off, none⟩ = some (.int .i64 x)›
    have q1 := ‹w1.cell? ⟨b, off + 1, none⟩ = some (.int .i64 y)›
    have q2 := ‹w1.cell? ⟨b, off + 2, none⟩ = some (.int .i64 d)›
    have q0' := ‹w1.cell? ⟨b', off', none⟩ = some (.int .i64 x')›
    have q1' := ‹w1.cell? ⟨b', off' + 1, none⟩ = some (.int .i64 y')›
    have q2' := ‹w1.cell? ⟨b', off' + 2, none⟩ = some (.int .i64 d')›
    have p0 := ‹w1.cell? ⟨b, off + (n - 1) * 3, none⟩ = some (.int .i64 u)›
    have p1 := ‹w1.cell? ⟨b, off + (n - 1) * 3 + 1, none⟩ = some (.int .i64 v)›
    have p2 := ‹w1.cell? ⟨b, off + (n - 1) * 3 + 2, none⟩ = some (.int .i64 t)›
    have p0' := ‹w1.cell? ⟨b', off' + (n' - 1) * 3, none⟩ = some (.int .i64 u')›
    have p1' := ‹w1.cell? ⟨b', off' + (n' - 1) * 3 + 1, none⟩ = some (.int .i64 v')›
    have p2' := ‹w1.cell? ⟨b', off' + (n' - 1) * 3 + 2, none⟩ = some (.int .i64 t')›
    have hb0 := Below.drew ‹Below w.heap.size w w1›
    by_cases hn1 : (1 : Int) < (n : Int)
    all_goals
      have hm1 : ¬ (1 : Int) < (n : Int) → (1 : Int) < (n' : Int) := by omega
      try have hm2 := hm1 hn1
      try have hm3 : decide ((1 : Int) < (n : Int)) = false := decide_eq_false hn1
      clear hm1
      go_wp2_with fail
      have i3 := I3.out
      have i3' := I3'.out
      have i4 : IntKind.i64.wrap ((n : Int) - 1) = (n : Int) - 1 := IntWalk.i64_in _ (by omega)
      have i4' : IntKind.i64.wrap ((n' : Int) - 1) = (n' : Int) - 1 := IntWalk.i64_in _ (by omega)
      have i5 : IntKind.i64.wrap (C1 + C2) = C1 + C2 := IntWalk.i64_in _ (by omega)
      have i6 : 1 ≤ n := by omega
      have i6' : 1 ≤ n' := by omega
      go_region_held3 (fun w' => w'.cell? ⟨b, off, none⟩ = some (.int .i64 x) ∧ w'.cell? ⟨b, off + 1, none⟩ = some (.int .i64 y) ∧ w'.cell? ⟨b, off + 2, none⟩ = some (.int .i64 d) ∧ w'.cell? ⟨b', off', none⟩ = some (.int .i64 x') ∧ w'.cell? ⟨b', off' + 1, none⟩ = some (.int .i64 y') ∧ w'.cell? ⟨b', off' + 2, none⟩ = some (.int .i64 d') ∧ w'.cell? ⟨b, off + (n - 1) * 3, none⟩ = some (.int .i64 u) ∧ w'.cell? ⟨b, off + (n - 1) * 3 + 1, none⟩ = some (.int .i64 v) ∧ w'.cell? ⟨b, off + (n - 1) * 3 + 2, none⟩ = some (.int .i64 t) ∧ w'.cell? ⟨b', off' + (n' - 1) * 3, none⟩ = some (.int .i64 u') ∧ w'.cell? ⟨b', off' + (n' - 1) * 3 + 1, none⟩ = some (.int .i64 v') ∧ w'.cell? ⟨b', off' + (n' - 1) * 3 + 2, none⟩ = some (.int .i64 t') ∧ Below w.heap.size w w')
        (first | exact ⟨q0, q1, q2, q0', q1', q2', p0, p1, p2, p0', p1', p2', hb0⟩ | go_keep | (go_split_ands; exact ⟨cell_on2 hb1 ‹_›, cell_on2 hb1 ‹_›, cell_on2 hb1 ‹_›, cell_on2 hb1 ‹_›, cell_on2 hb1 ‹_›, cell_on2 hb1 ‹_›, cell_on2 hb1 ‹_›, cell_on2 hb1 ‹_›, cell_on2 hb1 ‹_›, cell_on2 hb1 ‹_›, cell_on2 hb1 ‹_›, cell_on2 hb1 ‹_›, below_on hb1 ‹_›⟩))
        ((go_at_call 106; with_reducible refine (Z2.out _).mono ?_; rintro e w1 ⟨rfl, hb1⟩))
      go_split_ands
      clear i3 i3' i4 i4' i5
      go_wp2
      go_ret
      exact ⟨ret_int hE.out.symm, ‹Below w.heap.size w w1›⟩
  · have hE : Hid (endsF xs ys = C1) := by
      unfold Hid endsF; rw [if_neg (by rw [hl.out, hl'.out]; omega), f0_of ha0.out, f0_of hb00.out, HC1.out, Int.add_zero]
    have hn1 : ¬ (1 : Int) < (n : Int) := by omega
    have hn1' : ¬ (1 : Int) < (n' : Int) := by omega
    clear i3 i3'
    go_enter Try.func84, Try.ntmps84
    go_wp2_with fail
    go_region_held3 (fun w' => w'.cell? ⟨b, off, none⟩ = some (.int .i64 x) ∧ w'.cell? ⟨b, off + 1, none⟩ = some (.int .i64 y) ∧ w'.cell? ⟨b, off + 2, none⟩ = some (.int .i64 d) ∧ w'.cell? ⟨b', off', none⟩ = some (.int .i64 x') ∧ w'.cell? ⟨b', off' + 1, none⟩ = some (.int .i64 y') ∧ w'.cell? ⟨b', off' + 2, none⟩ = some (.int .i64 d') ∧ w'.cell? ⟨b, off + (n - 1) * 3, none⟩ = some (.int .i64 u) ∧ w'.cell? ⟨b, off + (n - 1) * 3 + 1, none⟩ = some (.int .i64 v) ∧ w'.cell? ⟨b, off + (n - 1) * 3 + 2, none⟩ = some (.int .i64 t) ∧ w'.cell? ⟨b', off' + (n' - 1) * 3, none⟩ = some (.int .i64 u') ∧ w'.cell? ⟨b', off' + (n' - 1) * 3 + 1, none⟩ = some (.int .i64 v') ∧ w'.cell? ⟨b', off' + (n' - 1) * 3 + 2, none⟩ = some (.int .i64 t') ∧ Below w.heap.size w w')
      (first | exact ⟨q0, q1, q2, q0', q1', q2', p0, p1, p2, p0', p1', p2', hb0⟩ | go_keep | (go_split_ands; exact ⟨cell_on2 hb1 ‹_›, cell_on2 hb1 ‹_›, cell_on2 hb1 ‹_›, cell_on2 hb1 ‹_›, cell_on2 hb1 ‹_›, cell_on2 hb1 ‹_›, cell_on2 hb1 ‹_›, cell_on2 hb1 ‹_›, cell_on2 hb1 ‹_›, cell_on2 hb1 ‹_›, cell_on2 hb1 ‹_›, cell_on2 hb1 ‹_›, below_on hb1 ‹_›⟩))
      ((go_at_call 106; with_reducible refine (Z1.out _).mono ?_; rintro e w1 ⟨rfl, hb1⟩))
    go_split_ands
    go_wp2
    go_ret
    exact ⟨ret_int hE.out.symm, ‹Below w.heap.size w w1›⟩
set_option maxHeartbeats 1000000 in
theorem endsBound_any (A A' : Option Addr) (n c n' c' : Nat) (xs ys : List T3) (w : World) (hr : RdL c3 3 w w.heap.size A n c xs) (hr' : RdL c3 3 w w.heap.size A' n' c' ys) (hx : featsOk 72 xs = true) (hy : featsOk 72 ys = true) :
    Calls Try.prog 88 #[.slice A n c, .slice A' n' c'] w fun e w' => e = .returned (.int .i64 (endsF xs ys)) ∧ Below w.heap.size w w' := by
  have hl := Lib.hid hr.len
  have hl' := Lib.hid hr'.len
  have hn := featsOk_len hx
  have hn' := featsOk_len hy
  rw [hr.len] at hn
  rw [hr'.len] at hn'
  obtain ⟨b, off, x, y, d, rfl, hbl, ha0, q0, q1, q2⟩ := hr.at3 (k := 0) (by omega)
  obtain ⟨b', off', x', y', d', rfl, hbl', hb00, q0', q1', q2'⟩ := hr'.at3 (k := 0) (by omega)
  obtain ⟨_, _, u, v, t, e1, _, hau, p0, p1, p2⟩ := hr.at3 (k := n - 1) (by omega)
  cases e1
  obtain ⟨_, _, u', v', t', e1, _, hbu, p0', p1', p2'⟩ := hr'.at3 (k := n' - 1) (by omega)
  cases e1
  simp only [Nat.zero_mul, Nat.add_zero] at q0 q1 q2 q0' q1' q2'
  have k1 : featB x y d = true := all_at (p := featOk) (x := (x, y, d)) (featsOk_all hx) ha0.out
  have k2 : featB x' y' d' = true := all_at (p := featOk) (x := (x', y', d')) (featsOk_all hy) hb00.out
  have k3 : featB u v t = true := all_at (p := featOk) (x := (u, v, t)) (featsOk_all hx) hau.out
  have k4 : featB u' v' t' = true := all_at (p := featOk) (x := (u', v', t')) (featsOk_all hy) hbu.out
  have z1 := fun W => featCost_any x y d x' y' d' W k1 k2
  have Z1 := Lib.hid z1
  have z2 := fun W => featCost_any u v t u' v' t' W k3 k4
  have Z2 := Lib.hid z2
  have c1 := cost_bd (a := (x, y, d)) (b := (x', y', d')) k1 k2
  have c2 := cost_bd (a := (u, v, t)) (b := (u', v', t')) k3 k4
  have hN0 := hn.1
  have hN1 := hn.2
  have hM0 := hn'.1
  have hM1 := hn'.2
  have c10 := c1.1
  have c11 := c1.2
  have c20 := c2.1
  have c21 := c2.2
  generalize hC1 : costF (x, y, d) (x', y', d') = C1 at *
  generalize hC2 : costF (u, v, t) (u', v', t') = C2 at *
  have HC1 := Lib.hid hC1
  have HC2 := Lib.hid hC2
  clear hr hr' hx hy k1 k2 k3 k4 z1 z2 c1 c2 hn hn' hC1 hC2
  have hb0 : Below w.heap.size w w.drew := (Below.refl _ _).drew
  have i0 : 0 < n := by omega
  have i0' : 0 < n' := by omega
  have i1 : (0 : Int) ≤ (n : Int) - 1 := by omega
  have i1' : (0 : Int) ≤ (n' : Int) - 1 := by omega
  have i2 : (n : Int) - 1 < (n : Int) := by omega
  have i2' : (n' : Int) - 1 < (n' : Int) := by omega
  have i3 : ((n : Int) - 1).toNat = n - 1 := by omega
  have i3' : ((n' : Int) - 1).toNat = n' - 1 := by omega
  by_cases hone : (1 : Int) < (n : Int) ∨ (1 : Int) < (n' : Int)
  · have hE : Hid (endsF xs ys = C1 + C2) := by
      unfold Hid endsF; rw [if_pos (by rw [hl.out, hl'.out]; omega), f0_of ha0.out, f0_of hb00.out, fl_of hl.out hau.out, fl_of hl'.out hbu.out, HC1.out, HC2.out]
    have I3 := Lib.hid i3
    have I3' := Lib.hid i3'
    clear i3 i3'
    go_enter Try.func88, Try.ntmps88
    go_wp2_with fail
    go_region_held3 (fun w' => w'.cell? ⟨b, off, none⟩ = some (.int .i64 x) ∧ w'.cell? ⟨b, off + 1, none⟩ = some (.int .i64 y) ∧ w'.cell? ⟨b, off + 2, none⟩ = some (.int .i64 d) ∧ w'.cell? ⟨b', off', none⟩ = some (.int .i64 x') ∧ w'.cell? ⟨b', off' + 1, none⟩ = some (.int .i64 y') ∧ w'.cell? ⟨b', off' + 2, none⟩ = some (.int .i64 d') ∧ w'.cell? ⟨b, off + (n - 1) * 3, none⟩ = some (.int .i64 u) ∧ w'.cell? ⟨b, off + (n - 1) * 3 + 1, none⟩ = some (.int .i64 v) ∧ w'.cell? ⟨b, off + (n - 1) * 3 + 2, none⟩ = some (.int .i64 t) ∧ w'.cell? ⟨b', off' + (n' - 1) * 3, none⟩ = some (.int .i64 u') ∧ w'.cell? ⟨b', off' + (n' - 1) * 3 + 1, none⟩ = some (.int .i64 v') ∧ w'.cell? ⟨b', off' + (n' - 1) * 3 + 2, none⟩ = some (.int .i64 t') ∧ Below w.heap.size w w')
      (first | exact ⟨q0, q1, q2, q0', q1', q2', p0, p1, p2, p0', p1', p2', hb0⟩ | go_keep | (go_split_ands; exact ⟨cell_on2 hb1 ‹_›, cell_on2 hb1 ‹_›, cell_on2 hb1 ‹_›, cell_on2 hb1 ‹_›, cell_on2 hb1 ‹_›, cell_on2 hb1 ‹_›, cell_on2 hb1 ‹_›, cell_on2 hb1 ‹_›, cell_on2 hb1 ‹_›, cell_on2 hb1 ‹_›, cell_on2 hb1 ‹_›, cell_on2 hb1 ‹_›, below_on hb1 ‹_›⟩))
      ((go_at_call 108; with_reducible refine (Z1.out _).mono ?_; rintro e w1 ⟨rfl, hb1⟩))
    go_split_ands
    clear q0 q1 q2 q0' q1' q2' p0 p1 p2 p0' p1' p2' hb0
    have q0 := ‹w1.cell? ⟨b, off, none⟩ = some (.int .i64 x)›
    have q1 := ‹w1.cell? ⟨b, off + 1, none⟩ = some (.int .i64 y)›
    have q2 := ‹w1.cell? ⟨b, off + 2, none⟩ = some (.int .i64 d)›
    have q0' := ‹w1.cell? ⟨b', off', none⟩ = some (.int .i64 x')›
    have q1' := ‹w1.cell? ⟨b', off' + 1, none⟩ = some (.int .i64 y')›
    have q2' := ‹w1.cell? ⟨b', off' + 2, none⟩ = some (.int .i64 d')›
    have p0 := ‹w1.cell? ⟨b, off + (n - 1) * 3, none⟩ = some (.int .i64 u)›
    have p1 := ‹w1.cell? ⟨b, off + (n - 1) * 3 + 1, none⟩ = some (.int .i64 v)›
    have p2 := ‹w1.cell? ⟨b, off + (n - 1) * 3 + 2, none⟩ = some (.int .i64 t)›
    have p0' := ‹w1.cell? ⟨b', off' + (n' - 1) * 3, none⟩ = some (.int .i64 u')›
    have p1' := ‹w1.cell? ⟨b', off' + (n' - 1) * 3 + 1, none⟩ = some (.int .i64 v')›
    have p2' := ‹w1.cell? ⟨b', off' + (n' - 1) * 3 + 2, none⟩ = some (.int .i64 t')›
    have hb0 := Below.drew ‹Below w.heap.size w w1›
    by_cases hn1 : (1 : Int) < (n : Int)
    all_goals
      have hm1 : ¬ (1 : Int) < (n : Int) → (1 : Int) < (n' : Int) := by omega
      try have hm2 := hm1 hn1
      try have hm3 : decide ((1 : Int) < (n : Int)) = false := decide_eq_false hn1
      clear hm1
      go_wp2_with fail
      have i3 := I3.out
      have i3' := I3'.out
      have i4 : IntKind.i64.wrap ((n : Int) - 1) = (n : Int) - 1 := IntWalk.i64_in _ (by omega)
      have i4' : IntKind.i64.wrap ((n' : Int) - 1) = (n' : Int) - 1 := IntWalk.i64_in _ (by omega)
      have i5 : IntKind.i64.wrap (C1 + C2) = C1 + C2 := IntWalk.i64_in _ (by omega)
      have i6 : 1 ≤ n := by omega
      have i6' : 1 ≤ n' := by omega
      go_region_held3 (fun w' => w'.cell? ⟨b, off, none⟩ = some (.int .i64 x) ∧ w'.cell? ⟨b, off + 1, none⟩ = some (.int .i64 y) ∧ w'.cell? ⟨b, off + 2, none⟩ = some (.int .i64 d) ∧ w'.cell? ⟨b', off', none⟩ = some (.int .i64 x') ∧ w'.cell? ⟨b', off' + 1, none⟩ = some (.int .i64 y') ∧ w'.cell? ⟨b', off' + 2, none⟩ = some (.int .i64 d') ∧ w'.cell? ⟨b, off + (n - 1) * 3, none⟩ = some (.int .i64 u) ∧ w'.cell? ⟨b, off + (n - 1) * 3 + 1, none⟩ = some (.int .i64 v) ∧ w'.cell? ⟨b, off + (n - 1) * 3 + 2, none⟩ = some (.int .i64 t) ∧ w'.cell? ⟨b', off' + (n' - 1) * 3, none⟩ = some (.int .i64 u') ∧ w'.cell? ⟨b', off' + (n' - 1) * 3 + 1, none⟩ = some (.int .i64 v') ∧ w'.cell? ⟨b', off' + (n' - 1) * 3 + 2, none⟩ = some (.int .i64 t') ∧ Below w.heap.size w w')
        (first | exact ⟨q0, q1, q2, q0', q1', q2', p0, p1, p2, p0', p1', p2', hb0⟩ | go_keep | (go_split_ands; exact ⟨cell_on2 hb1 ‹_›, cell_on2 hb1 ‹_›, cell_on2 hb1 ‹_›, cell_on2 hb1 ‹_›, cell_on2 hb1 ‹_›, cell_on2 hb1 ‹_›, cell_on2 hb1 ‹_›, cell_on2 hb1 ‹_›, cell_on2 hb1 ‹_›, cell_on2 hb1 ‹_›, cell_on2 hb1 ‹_›, cell_on2 hb1 ‹_›, below_on hb1 ‹_›⟩))
        ((go_at_call 108; with_reducible refine (Z2.out _).mono ?_; rintro e w1 ⟨rfl, hb1⟩))
      go_split_ands
      clear i3 i3' i4 i4' i5
      go_wp2
      go_ret
      exact ⟨ret_int hE.out.symm, ‹Below w.heap.size w w1›⟩
  · have hE : Hid (endsF xs ys = C1) := by
      unfold Hid endsF; rw [if_neg (by rw [hl.out, hl'.out]; omega), f0_of ha0.out, f0_of hb00.out, HC1.out, Int.add_zero]
    have hn1 : ¬ (1 : Int) < (n : Int) := by omega
    have hn1' : ¬ (1 : Int) < (n' : Int) := by omega
    clear i3 i3'
    go_enter Try.func88, Try.ntmps88
    go_wp2_with fail
    go_region_held3 (fun w' => w'.cell? ⟨b, off, none⟩ = some (.int .i64 x) ∧ w'.cell? ⟨b, off + 1, none⟩ = some (.int .i64 y) ∧ w'.cell? ⟨b, off + 2, none⟩ = some (.int .i64 d) ∧ w'.cell? ⟨b', off', none⟩ = some (.int .i64 x') ∧ w'.cell? ⟨b', off' + 1, none⟩ = some (.int .i64 y') ∧ w'.cell? ⟨b', off' + 2, none⟩ = some (.int .i64 d') ∧ w'.cell? ⟨b, off + (n - 1) * 3, none⟩ = some (.int .i64 u) ∧ w'.cell? ⟨b, off + (n - 1) * 3 + 1, none⟩ = some (.int .i64 v) ∧ w'.cell? ⟨b, off + (n - 1) * 3 + 2, none⟩ = some (.int .i64 t) ∧ w'.cell? ⟨b', off' + (n' - 1) * 3, none⟩ = some (.int .i64 u') ∧ w'.cell? ⟨b', off' + (n' - 1) * 3 + 1, none⟩ = some (.int .i64 v') ∧ w'.cell? ⟨b', off' + (n' - 1) * 3 + 2, none⟩ = some (.int .i64 t') ∧ Below w.heap.size w w')
      (first | exact ⟨q0, q1, q2, q0', q1', q2', p0, p1, p2, p0', p1', p2', hb0⟩ | go_keep | (go_split_ands; exact ⟨cell_on2 hb1 ‹_›, cell_on2 hb1 ‹_›, cell_on2 hb1 ‹_›, cell_on2 hb1 ‹_›, cell_on2 hb1 ‹_›, cell_on2 hb1 ‹_›, cell_on2 hb1 ‹_›, cell_on2 hb1 ‹_›, cell_on2 hb1 ‹_›, cell_on2 hb1 ‹_›, cell_on2 hb1 ‹_›, cell_on2 hb1 ‹_›, below_on hb1 ‹_›⟩))
      ((go_at_call 108; with_reducible refine (Z1.out _).mono ?_; rintro e w1 ⟨rfl, hb1⟩))
    go_split_ands
    go_wp2
    go_ret
    exact ⟨ret_int hE.out.symm, ‹Below w.heap.size w w1›⟩
end Go.Proofs.Ytkldejbhhbgefaa
