/- Boxes of strokes and of ink, in plain words; the program's boxOfStroke, boxOfInk, the reference's l02BoxOf, l02All. -/
import Derived.Test.YtbfilhpgekgmbaaIk
import Derived.Test.YtbfilhpgekgmbaaCt
import Derived.Test.YtbfilhpgekgmbaaBx
namespace Go.Proofs.Ytbfilhpgekgmbaa
open Go.ChangeShapes Go.WideShapes Go.ChangeAt Go.RowKit
def ptB (p : T3) : T4 := (p.1, p.2.1, p.1, p.2.1)
theorem joinB_idem (b : T4) : joinB b b = b := by obtain ⟨a, b, c, d⟩ := b; unfold joinB; simp
def bxF (x : List T3) (k : Nat) : T4 := (x.take k).foldl (fun b p => joinB b (ptB p)) (ptB (x.getD 0 (0, 0, 0)))
def bxS (x : List T3) : T4 := bxF x x.length
theorem bxF_step {x : List T3} {k : Nat} {p : T3} (h : x[k]? = some p) : bxF x (k + 1) = joinB (bxF x k) (ptB p) := fold_step (f := fun b p => joinB b (ptB p)) h
theorem bxF_zero {x : List T3} {p : T3} (h : x[0]? = some p) : bxF x 0 = ptB p := by unfold bxF; rw [getD_of h]; rfl
theorem bxF_one {x : List T3} {p : T3} (h : x[0]? = some p) : bxF x 1 = ptB p := by rw [bxF_step (k := 0) h, bxF_zero h, joinB_idem]
def bxG (xs : List (List T3)) (k : Nat) : T4 := (xs.take k).foldl (fun b x => joinB b (bxS x)) (bxS (xs.getD 0 []))
def bxI (xs : List (List T3)) : T4 := bxG xs xs.length
theorem bxG_step {xs : List (List T3)} {k : Nat} {x : List T3} (h : xs[k]? = some x) : bxG xs (k + 1) = joinB (bxG xs k) (bxS x) := fold_step (f := fun b x => joinB b (bxS x)) h
theorem bxG_zero {xs : List (List T3)} {x : List T3} (h : xs[0]? = some x) : bxG xs 0 = bxS x := by unfold bxG; rw [getD_of h]; rfl
theorem bxG_one {xs : List (List T3)} {x : List T3} (h : xs[0]? = some x) : bxG xs 1 = bxS x := by rw [bxG_step (k := 0) h, bxG_zero h, joinB_idem]
/-- A box of the page. -/
def okB (b : T4) : Prop := (0 ≤ b.1 ∧ b.1 ≤ b.2.2.1 ∧ b.2.2.1 ≤ 4095) ∧ (0 ≤ b.2.1 ∧ b.2.1 ≤ b.2.2.2 ∧ b.2.2.2 ≤ 4095)
/-- A point in a box. -/
def inBx (p : T3) (b : T4) : Prop := (b.1 ≤ p.1 ∧ p.1 ≤ b.2.2.1) ∧ (b.2.1 ≤ p.2.1 ∧ p.2.1 ≤ b.2.2.2)
theorem joinB_ok {a b : T4} (ha : okB a) (hb : okB b) : okB (joinB a b) := by
  obtain ⟨a1, a2, a3, a4⟩ := a; obtain ⟨b1, b2, b3, b4⟩ := b; unfold okB at *; unfold joinB; dsimp only at *; omega
theorem inBx_l {a b : T4} {p : T3} (h : inBx p a) : inBx p (joinB a b) := by
  obtain ⟨a1, a2, a3, a4⟩ := a; obtain ⟨b1, b2, b3, b4⟩ := b; unfold inBx at *; unfold joinB; dsimp only at *; omega
theorem inBx_r {a b : T4} {p : T3} (h : inBx p b) : inBx p (joinB a b) := by
  obtain ⟨a1, a2, a3, a4⟩ := a; obtain ⟨b1, b2, b3, b4⟩ := b; unfold inBx at *; unfold joinB; dsimp only at *; omega
theorem ptB_ok {p : T3} (h1 : 0 ≤ p.1 ∧ p.1 ≤ 4095) (h2 : 0 ≤ p.2.1 ∧ p.2.1 ≤ 4095) : okB (ptB p) := by unfold okB ptB; dsimp only; omega
theorem inBx_pt (p : T3) : inBx p (ptB p) := by unfold inBx ptB; dsimp only; omega
theorem strokeB_head {x : List T3} (h : strokeB x = true) : ∃ p, x[0]? = some p := by
  have := strokeB_len h
  exact ⟨x[0]'(by omega), List.getElem?_eq_getElem (by omega)⟩
theorem bxF_ok {x : List T3} (h : strokeB x = true) : ∀ k, k ≤ x.length → okB (bxF x k)
  | 0, _ => by
    obtain ⟨p, hp⟩ := strokeB_head h
    have hm := List.mem_of_getElem? hp
    rw [bxF_zero hp]; exact ptB_ok ((pt_bd h).1 p hm) ((pt_bd h).2 p hm)
  | k + 1, hk => by
    have hp : x[k]? = some (x[k]'(by omega)) := List.getElem?_eq_getElem (by omega)
    have hm := List.mem_of_getElem? hp
    rw [bxF_step hp]; exact joinB_ok (bxF_ok h k (by omega)) (ptB_ok ((pt_bd h).1 _ hm) ((pt_bd h).2 _ hm))
theorem bxS_ok {x : List T3} (h : strokeB x = true) : okB (bxS x) := bxF_ok h _ (Nat.le_refl _)
theorem bxF_in {x : List T3} : ∀ k, k ≤ x.length → ∀ j p, j < k → x[j]? = some p → inBx p (bxF x k)
  | 0, _, j, p, hj, _ => by omega
  | k + 1, hk, j, p, hj, hp => by
    have hq : x[k]? = some (x[k]'(by omega)) := List.getElem?_eq_getElem (by omega)
    rw [bxF_step hq]
    by_cases e : j = k
    · subst e; rw [hq] at hp; cases hp; exact inBx_r (inBx_pt _)
    · exact inBx_l (bxF_in k (by omega) j p (by omega) hp)
theorem bxS_in {x : List T3} {j : Nat} {p : T3} (hp : x[j]? = some p) : inBx p (bxS x) := bxF_in _ (Nat.le_refl _) j p (List.getElem?_eq_some_iff.1 hp).1 hp
theorem bxG_ok {xs : List (List T3)} (h : inkB xs = true) (h0 : xs.length ≠ 0) : ∀ k, k ≤ xs.length → okB (bxG xs k)
  | 0, _ => by
    have hp : xs[0]? = some (xs[0]'(by omega)) := List.getElem?_eq_getElem (by omega)
    rw [bxG_zero hp]; exact bxS_ok (inkB_at h hp)
  | k + 1, hk => by
    have hp : xs[k]? = some (xs[k]'(by omega)) := List.getElem?_eq_getElem (by omega)
    rw [bxG_step hp]; exact joinB_ok (bxG_ok h h0 k (by omega)) (bxS_ok (inkB_at h hp))
theorem bxI_ok {xs : List (List T3)} (h : inkB xs = true) (h0 : xs.length ≠ 0) : okB (bxI xs) := bxG_ok h h0 _ (Nat.le_refl _)
theorem inBx_join {p : T3} {a b : T4} (h : inBx p a ∨ inBx p b) : inBx p (joinB a b) := h.elim inBx_l inBx_r
theorem bxG_in {xs : List (List T3)} : ∀ k, k ≤ xs.length → ∀ j x p, j < k → xs[j]? = some x → p ∈ x → inBx p (bxG xs k)
  | 0, _, j, x, p, hj, _, _ => by omega
  | k + 1, hk, j, x, p, hj, hx, hp => by
    have hq : xs[k]? = some (xs[k]'(by omega)) := List.getElem?_eq_getElem (by omega)
    rw [bxG_step hq]
    by_cases e : j = k
    · subst e; rw [hq] at hx; cases hx
      obtain ⟨i, hi⟩ := List.getElem?_of_mem hp
      exact inBx_r (bxS_in hi)
    · exact inBx_l (bxG_in k (by omega) j x p (by omega) hx hp)
theorem bxI_in {xs : List (List T3)} {j : Nat} {x : List T3} {p : T3} (hx : xs[j]? = some x) (hp : p ∈ x) : inBx p (bxI xs) := bxG_in _ (Nat.le_refl _) j x p (List.getElem?_eq_some_iff.1 hx).1 hx hp
theorem Cel.far9 {w : World} {g o : Nat} {v : Value} (h : Cel w g o v) {g' : Nat} (hg : g ≠ g') (o' : Nat) (u : Value) : Cel (w.setCell ⟨g', o', none⟩ u) g o v :=
  ⟨by simpa [World.setCell] using h.1, by rw [World.cell?_setCell_other w ⟨g', o', none⟩ ⟨g, o, none⟩ u (fun e => hg (by first | exact congrArg Addr.block e | exact (congrArg Addr.block e).symm))]; exact h.2⟩
set_option maxRecDepth 100000 in
set_option maxHeartbeats 8000000 in
theorem boxOfStroke_any (A : Option Addr) (n c : Nat) (x : List T3) (w : World) (hr : RdL c3 3 w w.heap.size A n c x) (hok : strokeB x = true) :
    Calls Try.prog 69 #[.agg #[.slice A n c]] w fun e w' => e = .returned (.agg (v4 (bxS x))) ∧ Below w.heap.size w w' := by
  have hl := Lib.hid hr.len
  obtain ⟨⟨px, py, pt⟩, hp⟩ := strokeB_head hok
  have hln := strokeB_len hok
  rw [hl.out] at hln
  have HP := Lib.hid hp
  have hA : ∀ ad, A = some ad → ad.block < w.heap.size := fun ad h => by
    obtain ⟨b, off, x0, y0, t0, rfl, hbl, _⟩ := hr.at3 (show 0 < n by omega)
    cases h; exact hbl
  clear hp
  go_enter Try.func69, Try.ntmps69
  go_wp2_with fail
  have K0 : Blk ((w.alloc (.cells #[.slice A n c] 52)).alloc (.cells #[.int .i64 0, .int .i64 0, .int .i64 0, .int .i64 0] 64)) (w.heap.size) 52 #[.slice A n c] := by have hk := (Blk.new w 52 #[.slice A n c]).alloc (.cells #[.int .i64 0, .int .i64 0, .int .i64 0, .int .i64 0] 64); simpa using hk
  have R0 : Blk ((w.alloc (.cells #[.slice A n c] 52)).alloc (.cells #[.int .i64 0, .int .i64 0, .int .i64 0, .int .i64 0] 64)) (w.heap.size + 1) 64 #[.int .i64 0, .int .i64 0, .int .i64 0, .int .i64 0] := by have hk := Blk.new (w.alloc (.cells #[.slice A n c] 52)) 64 #[.int .i64 0, .int .i64 0, .int .i64 0, .int .i64 0]; simpa using hk
  have hbv : Below w.heap.size w ((w.alloc (.cells #[.slice A n c] 52)).alloc (.cells #[.int .i64 0, .int .i64 0, .int .i64 0, .int .i64 0] 64)) := (by repeat (first | exact Below.refl _ _ | assumption | refine Below.drew ?_ | refine below_drewN ?_ _ | refine Below.alloc ?_ (by first | omega | (simp <;> omega)) _ | refine Below.setCell ?_ (by first | omega | (simp <;> omega)) _))
  replace hr := hr.on hbv
  generalize ((w.alloc (.cells #[.slice A n c] 52)).alloc (.cells #[.int .i64 0, .int .i64 0, .int .i64 0, .int .i64 0] 64)) = v at *
  have hB := hbv
  have e0 := K0.cell 0
  simp only [List.getElem?_toArray, List.getElem?_cons_zero] at e0
  go_wp2_with fail
  with_reducible refine (firstOf_rd _ _ _ x _ _ hr HP.out).mono ?_
  rintro e w1 ⟨rfl, hb1⟩
  replace K0 := K0.on hb1
  replace R0 := R0.on hb1
  replace hr := hr.on hb1
  replace hB := below_on hb1 hB
  clear e0 hb1 hbv
  have e0 := K0.cell 0
  simp only [List.getElem?_toArray, List.getElem?_cons_zero] at e0
  have z0 := K0.lt
  have z1 := R0.lt
  have HR := Lib.hid hr
  clear hr
  go_wp2_with fail
  have P0 : Blk ((w1.alloc (.cells #[.int .i64 px, .int .i64 py, .int .i64 pt] 54)).alloc (.cells #[.int .i64 px, .int .i64 py, .int .i64 px, .int .i64 py] 64)) (w1.heap.size) 54 #[.int .i64 px, .int .i64 py, .int .i64 pt] := by have hk := (Blk.new w1 54 #[.int .i64 px, .int .i64 py, .int .i64 pt]).alloc (.cells #[.int .i64 px, .int .i64 py, .int .i64 px, .int .i64 py] 64); simpa using hk
  have J0 : Blk ((w1.alloc (.cells #[.int .i64 px, .int .i64 py, .int .i64 pt] 54)).alloc (.cells #[.int .i64 px, .int .i64 py, .int .i64 px, .int .i64 py] 64)) (w1.heap.size + 1) 64 #[.int .i64 px, .int .i64 py, .int .i64 px, .int .i64 py] := by have hk := Blk.new (w1.alloc (.cells #[.int .i64 px, .int .i64 py, .int .i64 pt] 54)) 64 #[.int .i64 px, .int .i64 py, .int .i64 px, .int .i64 py]; simpa using hk
  have hbv2 : Below w1.heap.size w1 ((w1.alloc (.cells #[.int .i64 px, .int .i64 py, .int .i64 pt] 54)).alloc (.cells #[.int .i64 px, .int .i64 py, .int .i64 px, .int .i64 py] 64)) := (by repeat (first | exact Below.refl _ _ | assumption | refine Below.drew ?_ | refine below_drewN ?_ _ | refine Below.alloc ?_ (by first | omega | (simp <;> omega)) _ | refine Below.setCell ?_ (by first | omega | (simp <;> omega)) _))
  generalize ((w1.alloc (.cells #[.int .i64 px, .int .i64 py, .int .i64 pt] 54)).alloc (.cells #[.int .i64 px, .int .i64 py, .int .i64 px, .int .i64 py] 64)) = v2 at *
  have hr := HR.out.on hbv2
  replace K0 := K0.on hbv2
  replace R0 := R0.on hbv2
  replace hB := below_on hbv2 hB
  have J1 : Blk v2 (w1.heap.size + 1) 64 (v4 (bxF x 0)) := by rw [bxF_zero HP.out]; exact J0
  have zg : w.heap.size + 1 < w1.heap.size + 1 := by omega
  generalize w1.heap.size + 1 = g at *
  clear P0 J0 e0 HR hbv2
  go_loopw [21] (fun i wr => ∃ k : Nat, k ≤ n ∧ i = .int .i64 k ∧ Below w.heap.size w wr ∧ RdL c3 3 wr wr.heap.size A n c x ∧ Blk wr (w.heap.size + 1) 64 #[.int .i64 0, .int .i64 0, .int .i64 0, .int .i64 0] ∧ (∀ ad, A = some ad → ad.block ≠ g) ∧ Blk wr g 64 (v4 (bxF x k))) (fun i _ => n - (intOf i).toNat)
  case atStart => exact ⟨0, by omega, rfl, hB, hr, R0, fun ad h => by subst h; have := hA _ rfl; omega, J1⟩
  case round =>
    clear hr hB R0 J1
    obtain ⟨k, hk, rfl, hB, hr, R0, hne, J0⟩ := hrel
    by_cases hlt : k < n
    · obtain ⟨b, off, x', y', t', rfl, hbl, hx', q0, q1, q2⟩ := hr.at3 hlt
      have j0 := J0.cell 0
      have j1 := J0.cell 1
      have j2 := J0.cell 2
      have j3 := J0.cell 3
      simp only [List.getElem?_toArray, List.getElem?_cons_succ, List.getElem?_cons_zero] at j0 j1 j2 j3
      have l0 := J0.frozen 0
      have l1 := J0.frozen 1
      have l2 := J0.frozen 2
      have l3 := J0.frozen 3
      have z2 := J0.lt
      have z3 := R0.lt
      have hz := hB.size
      obtain ⟨⟨b1, b2, b3, b4⟩, hbx⟩ : ∃ bx, bxF x k = bx := ⟨_, rfl⟩
      rw [hbx] at j0 j1 j2 j3 J0
      have HBX := Lib.hid hbx
      have HR := Lib.hid hr
      have i1 : (k : Int) < (n : Int) := by omega
      have i2 : (0 : Int) ≤ (k : Int) := by omega
      clear hbx hr
      have ba : Below wr.heap.size wr (wr.alloc (.cells #[.int .i64 x', .int .i64 y', .int .i64 t'] 54)) := (Below.refl _ _).alloc (Nat.le_refl _) _
      go_wp2_with fail
      with_reducible refine (joinBoxes_any b1 b2 b3 b4 x' y' x' y' _).mono ?_
      rintro e w3 ⟨rfl, hbw3⟩
      clear j0 j1 j2 j3 l0 l1 l2 l3 q0 q1 q2
      replace R0 := (R0.on ba).on hbw3
      replace J0 := (J0.on ba).on hbw3
      replace hB := below_on hbw3 (below_on ba hB)
      have j0 := J0.cell 0
      have j1 := J0.cell 1
      have j2 := J0.cell 2
      have j3 := J0.cell 3
      simp only [List.getElem?_toArray, List.getElem?_cons_succ, List.getElem?_cons_zero] at j0 j1 j2 j3
      have l0 := J0.frozen 0
      have l1 := J0.frozen 1
      have l2 := J0.frozen 2
      have l3 := J0.frozen 3
      have z2 := J0.lt
      go_wp2
      refine ⟨⟨k + 1, by omega, by go_num, (by repeat (first | exact Below.refl _ _ | assumption | refine Below.drew ?_ | refine below_drewN ?_ _ | refine Below.alloc ?_ (by first | omega | (simp <;> omega)) _ | refine Below.setCell ?_ (by first | omega | (simp <;> omega)) _)), ?_, R0.far4 (by omega) _ _ _ _, hne, ?_⟩, by simp [intOf]; omega⟩
      · have hq := hne _ rfl
        exact RdL.farh (RdL.farh (RdL.farh (RdL.farh ((HR.out.on ba).on hbw3) (by intro ad h; cases h; exact hq) _) (by intro ad h; cases h; exact hq) _) (by intro ad h; cases h; exact hq) _) (by intro ad h; cases h; exact hq) _
      · have e := bxF_step hx'.out
        rw [HBX.out] at e
        rw [e]
        exact J0.set4 _ _ _ _
    · have hkn : k = n := by omega
      subst hkn
      have hbx : bxF x k = bxS x := by unfold bxS; rw [hl.out]
      rw [hbx] at J0
      clear hr hbx
      obtain ⟨⟨b1, b2, b3, b4⟩, hbx⟩ : ∃ bx, bxS x = bx := ⟨_, rfl⟩
      rw [hbx] at J0
      have HBX := Lib.hid hbx
      clear hbx
      have j0 := J0.cell 0
      have j1 := J0.cell 1
      have j2 := J0.cell 2
      have j3 := J0.cell 3
      simp only [List.getElem?_toArray, List.getElem?_cons_succ, List.getElem?_cons_zero] at j0 j1 j2 j3
      have e0 := R0.cell 0
      have e1 := R0.cell 1
      have e2 := R0.cell 2
      have e3 := R0.cell 3
      simp only [List.getElem?_toArray, List.getElem?_cons_succ, List.getElem?_cons_zero] at e0 e1 e2 e3
      have l0 := R0.frozen 0
      have l1 := R0.frozen 1
      have l2 := R0.frozen 2
      have l3 := R0.frozen 3
      have z2 := J0.lt
      have z3 := R0.lt
      go_wp2
      rw [HBX.out]
      exact bodyPost_ret (v := .agg #[.int .i64 b1, .int .i64 b2, .int .i64 b3, .int .i64 b4]) (by simp [results, Try.results69, go_sem, e0, e1, e2, e3]) rfl ⟨rfl, (by repeat (first | exact Below.refl _ _ | assumption | refine Below.drew ?_ | refine below_drewN ?_ _ | refine Below.alloc ?_ (by first | omega | (simp <;> omega)) _ | refine Below.setCell ?_ (by first | omega | (simp <;> omega)) _))⟩
set_option maxRecDepth 100000 in
set_option maxHeartbeats 8000000 in
theorem l02BoxOf_ptr (A : Option Addr) (n c : Nat) (x : List T3) (w : World) (g0 oo : Nat) (K0 : Cel w g0 oo (.slice A n c)) (hr : RdL c3 3 w w.heap.size A n c x) (hok : strokeB x = true) :
    Calls Try.prog 49 #[.pointer (some ⟨g0, oo, none⟩)] w fun e w' => e = .returned (.agg (v4 (bxS x))) ∧ Below w.heap.size w w' := by
  have hl := Lib.hid hr.len
  have hln := strokeB_len hok
  rw [hl.out] at hln
  obtain ⟨b0, off0, px, py, pt, rfl, hbl0, hx0, q0, q1, q2⟩ := hr.at3 (show 0 < n by omega)
  rw [Nat.zero_mul, Nat.add_zero] at q0 q1 q2
  have e0 := K0.cell
  have z0 := K0.lt
  have HR := Lib.hid hr
  have HK := Lib.hid K0
  have i0 : (0 : Int) < (n : Int) := by omega
  clear hr K0
  go_enter Try.func49, Try.ntmps49
  go_wp2_with fail
  have R0 : Blk (((w.alloc (.cells #[.int .i64 0, .int .i64 0, .int .i64 0, .int .i64 0] 64)).alloc (.cells #[.int .i64 px, .int .i64 py, .int .i64 pt] 54)).alloc (.cells #[.int .i64 px, .int .i64 py, .int .i64 px, .int .i64 py] 64)) (w.heap.size) 64 #[.int .i64 0, .int .i64 0, .int .i64 0, .int .i64 0] := by have hk := ((Blk.new w 64 #[.int .i64 0, .int .i64 0, .int .i64 0, .int .i64 0]).alloc (.cells #[.int .i64 px, .int .i64 py, .int .i64 pt] 54)).alloc (.cells #[.int .i64 px, .int .i64 py, .int .i64 px, .int .i64 py] 64); simpa using hk
  have P0 : Blk (((w.alloc (.cells #[.int .i64 0, .int .i64 0, .int .i64 0, .int .i64 0] 64)).alloc (.cells #[.int .i64 px, .int .i64 py, .int .i64 pt] 54)).alloc (.cells #[.int .i64 px, .int .i64 py, .int .i64 px, .int .i64 py] 64)) (w.heap.size + 1) 54 #[.int .i64 px, .int .i64 py, .int .i64 pt] := by have hk := (Blk.new (w.alloc (.cells #[.int .i64 0, .int .i64 0, .int .i64 0, .int .i64 0] 64)) 54 #[.int .i64 px, .int .i64 py, .int .i64 pt]).alloc (.cells #[.int .i64 px, .int .i64 py, .int .i64 px, .int .i64 py] 64); simpa using hk
  have J0 : Blk (((w.alloc (.cells #[.int .i64 0, .int .i64 0, .int .i64 0, .int .i64 0] 64)).alloc (.cells #[.int .i64 px, .int .i64 py, .int .i64 pt] 54)).alloc (.cells #[.int .i64 px, .int .i64 py, .int .i64 px, .int .i64 py] 64)) (w.heap.size + 1 + 1) 64 #[.int .i64 px, .int .i64 py, .int .i64 px, .int .i64 py] := by have hk := Blk.new ((w.alloc (.cells #[.int .i64 0, .int .i64 0, .int .i64 0, .int .i64 0] 64)).alloc (.cells #[.int .i64 px, .int .i64 py, .int .i64 pt] 54)) 64 #[.int .i64 px, .int .i64 py, .int .i64 px, .int .i64 py]; simpa using hk
  have hbv : Below w.heap.size w (((w.alloc (.cells #[.int .i64 0, .int .i64 0, .int .i64 0, .int .i64 0] 64)).alloc (.cells #[.int .i64 px, .int .i64 py, .int .i64 pt] 54)).alloc (.cells #[.int .i64 px, .int .i64 py, .int .i64 px, .int .i64 py] 64)) := (by repeat (first | exact Below.refl _ _ | assumption | refine Below.drew ?_ | refine below_drewN ?_ _ | refine Below.alloc ?_ (by first | omega | (simp <;> omega)) _ | refine Below.setCell ?_ (by first | omega | (simp <;> omega)) _))
  generalize (((w.alloc (.cells #[.int .i64 0, .int .i64 0, .int .i64 0, .int .i64 0] 64)).alloc (.cells #[.int .i64 px, .int .i64 py, .int .i64 pt] 54)).alloc (.cells #[.int .i64 px, .int .i64 py, .int .i64 px, .int .i64 py] 64)) = v at *
  have hr := HR.out.on hbv
  have K0 := HK.out.on hbv
  have J1 : Blk v (w.heap.size + 1 + 1) 64 (v4 (bxF x 1)) := by rw [bxF_one hx0.out]; exact J0
  have zg : w.heap.size + 1 < w.heap.size + 1 + 1 := by omega
  have zg2 : b0 ≠ w.heap.size + 1 + 1 := by omega
  have zg3 : g0 ≠ w.heap.size + 1 + 1 := by omega
  generalize w.heap.size + 1 + 1 = g at *
  have hB := hbv
  clear P0 J0 e0 HR HK hbv q0 q1 q2
  go_loopw [5] (fun i wr => ∃ k : Nat, k ≤ n ∧ i = .int .i64 k ∧ Below w.heap.size w wr ∧ RdL c3 3 wr wr.heap.size (some ⟨b0, off0, none⟩) n c x ∧ Cel wr g0 oo (.slice (some ⟨b0, off0, none⟩) n c) ∧ Blk wr w.heap.size 64 #[.int .i64 0, .int .i64 0, .int .i64 0, .int .i64 0] ∧ Blk wr g 64 (v4 (bxF x k))) (fun i _ => n - (intOf i).toNat)
  case atStart => exact ⟨1, by omega, rfl, hB, hr, K0, R0, J1⟩
  case round =>
    clear hr hB R0 J1 K0
    obtain ⟨k, hk, rfl, hB, hr, K0, R0, J0⟩ := hrel
    have e0 := K0.cell
    have z1 := K0.lt
    by_cases hlt : k < n
    · obtain ⟨b, off, x', y', t', he, hbl, hx', q0, q1, q2⟩ := hr.at3 hlt
      cases he
      have j0 := J0.cell 0
      have j1 := J0.cell 1
      have j2 := J0.cell 2
      have j3 := J0.cell 3
      simp only [List.getElem?_toArray, List.getElem?_cons_succ, List.getElem?_cons_zero] at j0 j1 j2 j3
      have l0 := J0.frozen 0
      have l1 := J0.frozen 1
      have l2 := J0.frozen 2
      have l3 := J0.frozen 3
      have z2 := J0.lt
      have z3 := R0.lt
      have hz := hB.size
      obtain ⟨⟨b1, b2, b3, b4⟩, hbx⟩ : ∃ bx, bxF x k = bx := ⟨_, rfl⟩
      rw [hbx] at j0 j1 j2 j3 J0
      have HBX := Lib.hid hbx
      have HR := Lib.hid hr
      have HK := Lib.hid K0
      have i1 : (k : Int) < (n : Int) := by omega
      have i2 : (0 : Int) ≤ (k : Int) := by omega
      clear hbx hr K0
      have ba : Below wr.heap.size wr (wr.alloc (.cells #[.int .i64 x', .int .i64 y', .int .i64 t'] 54)) := (Below.refl _ _).alloc (Nat.le_refl _) _
      go_wp2_with fail
      with_reducible refine (l02Join_any b1 b2 b3 b4 x' y' x' y' _).mono ?_
      rintro e w3 ⟨rfl, hbw3⟩
      clear j0 j1 j2 j3 l0 l1 l2 l3 q0 q1 q2 e0
      replace R0 := (R0.on ba).on hbw3
      replace J0 := (J0.on ba).on hbw3
      have K1 := (HK.out.on ba).on hbw3
      replace hB := below_on hbw3 (below_on ba hB)
      have j0 := J0.cell 0
      have j1 := J0.cell 1
      have j2 := J0.cell 2
      have j3 := J0.cell 3
      simp only [List.getElem?_toArray, List.getElem?_cons_succ, List.getElem?_cons_zero] at j0 j1 j2 j3
      have l0 := J0.frozen 0
      have l1 := J0.frozen 1
      have l2 := J0.frozen 2
      have l3 := J0.frozen 3
      have z2 := J0.lt
      go_wp2
      refine ⟨⟨k + 1, by omega, by go_num, (by repeat (first | exact Below.refl _ _ | assumption | refine Below.drew ?_ | refine below_drewN ?_ _ | refine Below.alloc ?_ (by first | omega | (simp <;> omega)) _ | refine Below.setCell ?_ (by first | omega | (simp <;> omega)) _)), ?_, ?_, R0.far4 (by omega) _ _ _ _, ?_⟩, by simp [intOf]; omega⟩
      · exact RdL.farh (RdL.farh (RdL.farh (RdL.farh ((HR.out.on ba).on hbw3) (by intro ad h; cases h; exact zg2) _) (by intro ad h; cases h; exact zg2) _) (by intro ad h; cases h; exact zg2) _) (by intro ad h; cases h; exact zg2) _
      · exact Cel.far9 (Cel.far9 (Cel.far9 (Cel.far9 K1 zg3 _ _) zg3 _ _) zg3 _ _) zg3 _ _
      · have e := bxF_step hx'.out
        rw [HBX.out] at e
        rw [e]
        exact J0.set4 _ _ _ _
    · have hkn : k = n := by omega
      subst hkn
      have hbx : bxF x k = bxS x := by unfold bxS; rw [hl.out]
      rw [hbx] at J0
      clear hr hbx K0
      obtain ⟨⟨b1, b2, b3, b4⟩, hbx⟩ : ∃ bx, bxS x = bx := ⟨_, rfl⟩
      rw [hbx] at J0
      have HBX := Lib.hid hbx
      clear hbx
      have j0 := J0.cell 0
      have j1 := J0.cell 1
      have j2 := J0.cell 2
      have j3 := J0.cell 3
      simp only [List.getElem?_toArray, List.getElem?_cons_succ, List.getElem?_cons_zero] at j0 j1 j2 j3
      have r0 := R0.cell 0
      have r1 := R0.cell 1
      have r2 := R0.cell 2
      have r3 := R0.cell 3
      simp only [List.getElem?_toArray, List.getElem?_cons_succ, List.getElem?_cons_zero] at r0 r1 r2 r3
      have l0 := R0.frozen 0
      have l1 := R0.frozen 1
      have l2 := R0.frozen 2
      have l3 := R0.frozen 3
      have z2 := J0.lt
      have z3 := R0.lt
      go_wp2
      rw [HBX.out]
      exact bodyPost_ret (v := .agg #[.int .i64 b1, .int .i64 b2, .int .i64 b3, .int .i64 b4]) (by simp [results, Try.results49, go_sem, r0, r1, r2, r3]) rfl ⟨rfl, (by repeat (first | exact Below.refl _ _ | assumption | refine Below.drew ?_ | refine below_drewN ?_ _ | refine Below.alloc ?_ (by first | omega | (simp <;> omega)) _ | refine Below.setCell ?_ (by first | omega | (simp <;> omega)) _))⟩
end Go.Proofs.Ytbfilhpgekgmbaa
