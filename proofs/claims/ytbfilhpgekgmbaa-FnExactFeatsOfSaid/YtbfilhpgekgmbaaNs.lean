/- Contracts of the places of a box in the normal square, one place. -/
import Derived.Test.YtbfilhpgekgmbaaBx
import Derived.Test.YtbfilhpgekgmbaaNd
import Derived.IntWalk
namespace Go.Proofs.Ytbfilhpgekgmbaa
open Go.ChangeShapes Go.WideShapes Go.ChangeAt Go.RowKit
def boxOk (b : T4) : Bool := inB 0 b.2.2.1 b.1 && inB 0 b.2.2.2 b.2.1 && decide (b.2.2.1 ≤ 4095) && decide (b.2.2.2 ≤ 4095)
theorem boxOk_iff {a b c d : Int} : boxOk (a, b, c, d) = true ↔ (0 ≤ a ∧ a ≤ c) ∧ (0 ≤ b ∧ b ≤ d) ∧ c ≤ 4095 ∧ d ≤ 4095 := by
  unfold boxOk; simp only [Bool.and_eq_true, inB_iff, decide_eq_true_eq, and_assoc]
def sideB (b : T4) : Int := max (max (b.2.2.1 - b.1) (b.2.2.2 - b.2.1)) 1
def inBox (p : T2) (b : T4) : Bool := inB b.1 b.2.2.1 p.1 && inB b.2.1 b.2.2.2 p.2
def nrmB (p : T2) (b : T4) : T2 := ((255 - (b.2.2.1 - b.1) * 255 / sideB b) / 2 + nearD ((p.1 - b.1) * 255) (sideB b), (255 - (b.2.2.2 - b.2.1) * 255 / sideB b) / 2 + nearD ((p.2 - b.2.1) * 255) (sideB b))
theorem quo_bd {x s : Int} (h0 : 0 ≤ x) (h1 : x ≤ s) (hs : 1 ≤ s) : 0 ≤ x * 255 / s ∧ x * 255 / s ≤ 255 := by
  refine ⟨Int.ediv_nonneg (by omega) (by omega), ?_⟩
  refine Int.ediv_le_of_le_mul (by omega) ?_
  rw [Int.mul_comm]; exact Int.mul_le_mul_of_nonneg_left h1 (by omega)
theorem sideOfBox_any (a b c d : Int) (w : World) (h : boxOk (a, b, c, d) = true) : Calls Try.prog 44 #[.agg #[.int .i64 a, .int .i64 b, .int .i64 c, .int .i64 d]] w fun e w' => e = .returned (.int .i64 (sideB (a, b, c, d))) ∧ Below w.heap.size w w' := by
  obtain ⟨⟨a0, a1⟩, ⟨b0, b1⟩, c1, d1⟩ := boxOk_iff.1 h
  clear h
  go_enter Try.func44, Try.ntmps44
  go_wp2
  all_goals
    go_ret
    exact ⟨ret_int (by unfold sideB; simp only; omega), (by repeat (first | exact Below.refl _ _ | assumption | refine Below.drew ?_ | refine below_drewN ?_ _ | refine Below.alloc ?_ (by first | omega | (simp <;> omega)) _ | refine Below.setCell ?_ (by first | omega | (simp <;> omega)) _))⟩
theorem l07Side_any (a b c d : Int) (w : World) (h : boxOk (a, b, c, d) = true) : Calls Try.prog 42 #[.agg #[.int .i64 a, .int .i64 b, .int .i64 c, .int .i64 d]] w fun e w' => e = .returned (.int .i64 (sideB (a, b, c, d))) ∧ Below w.heap.size w w' := by
  obtain ⟨⟨a0, a1⟩, ⟨b0, b1⟩, c1, d1⟩ := boxOk_iff.1 h
  clear h
  go_enter Try.func42, Try.ntmps42
  go_wp2_with (first | (go_at_call 68; with_reducible refine (l00Max_any _ _ _).mono ?_; rintro e w' ⟨rfl, rfl⟩))
  go_ret
  exact ⟨ret_int (by unfold sideB; simp only; omega), (by repeat (first | exact Below.refl _ _ | assumption | refine Below.drew ?_ | refine below_drewN ?_ _ | refine Below.alloc ?_ (by first | omega | (simp <;> omega)) _ | refine Below.setCell ?_ (by first | omega | (simp <;> omega)) _))⟩
set_option maxHeartbeats 2000000 in
theorem normalSpot_any (x y a b c d : Int) (w : World) (h : boxOk (a, b, c, d) = true) (hp : inBox (x, y) (a, b, c, d) = true) :
    Calls Try.prog 74 #[.agg #[.int .i64 x, .int .i64 y], .agg #[.int .i64 a, .int .i64 b, .int .i64 c, .int .i64 d]] w fun e w' =>
      e = .returned (.agg #[.int .i64 (nrmB (x, y) (a, b, c, d)).1, .int .i64 (nrmB (x, y) (a, b, c, d)).2]) ∧ Below w.heap.size w w' := by
  obtain ⟨⟨a0, a1⟩, ⟨b0, b1⟩, c1, d1⟩ := boxOk_iff.1 h
  obtain ⟨⟨x0, x1⟩, ⟨y0, y1⟩⟩ : (a ≤ x ∧ x ≤ c) ∧ (b ≤ y ∧ y ≤ d) := by
    unfold inBox at hp; simpa only [Bool.and_eq_true, inB_iff] using hp
  have HO := Lib.hid h
  clear h hp
  go_enter Try.func74, Try.ntmps74
  go_wp2_with fail
  have P0 : Blk (((w.alloc (.cells #[.int .i64 x, .int .i64 y] 96)).alloc (.cells #[.int .i64 a, .int .i64 b, .int .i64 c, .int .i64 d] 64)).alloc (.cells #[.int .i64 0, .int .i64 0] 96)) w.heap.size 96 #[.int .i64 x, .int .i64 y] := ((Blk.new _ _ _).alloc _).alloc _
  have K0 : Blk (((w.alloc (.cells #[.int .i64 x, .int .i64 y] 96)).alloc (.cells #[.int .i64 a, .int .i64 b, .int .i64 c, .int .i64 d] 64)).alloc (.cells #[.int .i64 0, .int .i64 0] 96)) (w.heap.size + 1) 64 #[.int .i64 a, .int .i64 b, .int .i64 c, .int .i64 d] := by have := (Blk.new (w.alloc (.cells #[.int .i64 x, .int .i64 y] 96)) 64 #[.int .i64 a, .int .i64 b, .int .i64 c, .int .i64 d]).alloc (.cells #[.int .i64 0, .int .i64 0] 96); simpa using this
  have J0 : Blk (((w.alloc (.cells #[.int .i64 x, .int .i64 y] 96)).alloc (.cells #[.int .i64 a, .int .i64 b, .int .i64 c, .int .i64 d] 64)).alloc (.cells #[.int .i64 0, .int .i64 0] 96)) (w.heap.size + 1 + 1) 96 #[.int .i64 0, .int .i64 0] := by have := Blk.new ((w.alloc (.cells #[.int .i64 x, .int .i64 y] 96)).alloc (.cells #[.int .i64 a, .int .i64 b, .int .i64 c, .int .i64 d] 64)) 96 #[.int .i64 0, .int .i64 0]; simpa using this
  have hB : Below w.heap.size w (((w.alloc (.cells #[.int .i64 x, .int .i64 y] 96)).alloc (.cells #[.int .i64 a, .int .i64 b, .int .i64 c, .int .i64 d] 64)).alloc (.cells #[.int .i64 0, .int .i64 0] 96)) := (by repeat (first | exact Below.refl _ _ | assumption | refine Below.drew ?_ | refine below_drewN ?_ _ | refine Below.alloc ?_ (by first | omega | (simp <;> omega)) _ | refine Below.setCell ?_ (by first | omega | (simp <;> omega)) _))
  generalize ((w.alloc (.cells #[.int .i64 x, .int .i64 y] 96)).alloc (.cells #[.int .i64 a, .int .i64 b, .int .i64 c, .int .i64 d] 64)).alloc (.cells #[.int .i64 0, .int .i64 0] 96) = v0 at *
  with_reducible refine (sideOfBox_any _ _ _ _ _ HO.out).mono ?_
  rintro e w1 ⟨rfl, hb1⟩
  replace hB := below_on hb1 hB
  replace P0 := P0.on hb1
  replace K0 := K0.on hb1
  replace J0 := J0.on hb1
  have p0 := P0.cell 0
  have p1 := P0.cell 1
  simp only [List.getElem?_toArray, List.getElem?_cons_succ, List.getElem?_cons_zero] at p0 p1
  have k0 := K0.cell 0
  have k1 := K0.cell 1
  have k2 := K0.cell 2
  have k3 := K0.cell 3
  simp only [List.getElem?_toArray, List.getElem?_cons_succ, List.getElem?_cons_zero] at k0 k1 k2 k3
  have j0 := J0.cell 0
  have j1 := J0.cell 1
  simp only [List.getElem?_toArray, List.getElem?_cons_succ, List.getElem?_cons_zero] at j0 j1
  have f0 := J0.frozen 0
  have f1 := J0.frozen 1
  have hj := J0.lt
  have hz := hB.size
  have hS : Hid (sideB (a, b, c, d) = sideB (a, b, c, d)) := Lib.hid rfl
  have s1 : 1 ≤ sideB (a, b, c, d) := by unfold sideB; simp only; omega
  have s2 : sideB (a, b, c, d) ≤ 4096 := by unfold sideB; simp only; omega
  obtain ⟨u0, u1⟩ := quo_bd (x := c - a) (s := sideB (a, b, c, d)) (by omega) (by unfold sideB; simp only; omega) s1
  obtain ⟨v0', v1'⟩ := quo_bd (x := d - b) (s := sideB (a, b, c, d)) (by omega) (by unfold sideB; simp only; omega) s1
  obtain ⟨n0, n1⟩ := nearD_bd (n := (x - a) * 255) (d := sideB (a, b, c, d)) (by omega) (by omega)
  obtain ⟨m0, m1⟩ := nearD_bd (n := (y - b) * 255) (d := sideB (a, b, c, d)) (by omega) (by omega)
  have HN : Hid (nrmB (x, y) (a, b, c, d) = ((255 - (c - a) * 255 / sideB (a, b, c, d)) / 2 + nearD ((x - a) * 255) (sideB (a, b, c, d)), (255 - (d - b) * 255 / sideB (a, b, c, d)) / 2 + nearD ((y - b) * 255) (sideB (a, b, c, d)))) := Lib.hid rfl
  generalize sideB (a, b, c, d) = sd at *
  clear hS
  go_wp2_with fail
  have ne1 : ¬ w.heap.size = w.heap.size + 1 + 1 := by omega
  have ne2 : ¬ w.heap.size + 1 + 1 = w.heap.size := by omega
  have o1 : IntKind.i64.wrap (x - a) = x - a := IntWalk.i64_in _ (by omega)
  have o2 : IntKind.i64.wrap ((x - a) * 255) = (x - a) * 255 := IntWalk.i64_in _ (by omega)
  have o3 : IntKind.i64.wrap (y - b) = y - b := IntWalk.i64_in _ (by omega)
  have o4 : IntKind.i64.wrap ((y - b) * 255) = (y - b) * 255 := IntWalk.i64_in _ (by omega)
  have o5 : IntKind.i64.wrap ((255 - (c - a) * 255 / sd) / 2 + nearD ((x - a) * 255) sd) = (255 - (c - a) * 255 / sd) / 2 + nearD ((x - a) * 255) sd := IntWalk.i64_in _ (by omega)
  have o6 : IntKind.i64.wrap ((255 - (d - b) * 255 / sd) / 2 + nearD ((y - b) * 255) sd) = (255 - (d - b) * 255 / sd) / 2 + nearD ((y - b) * 255) sd := IntWalk.i64_in _ (by omega)
  have z1 := fun W => nearestDiv_any ((x - a) * 255) sd W (by omega) (by omega) (by omega) (by omega)
  have z2 := fun W => nearestDiv_any ((y - b) * 255) sd W (by omega) (by omega) (by omega) (by omega)
  have Z1 := Lib.hid z1
  have Z2 := Lib.hid z2
  clear z1 z2
  go_region_held3 (fun w' => w'.cell? ⟨w.heap.size, 0, none⟩ = some (.int .i64 x) ∧ w'.cell? ⟨w.heap.size, 1, none⟩ = some (.int .i64 y) ∧ w'.cell? ⟨w.heap.size + 1, 0, none⟩ = some (.int .i64 a) ∧ w'.cell? ⟨w.heap.size + 1, 1, none⟩ = some (.int .i64 b)) (first | exact ⟨p0, p1, k0, k1⟩ | go_keep)
    (first | (go_at_call 37; (first | with_reducible refine (Z1.out _).mono ?_ | with_reducible refine (Z2.out _).mono ?_); rintro e w7 ⟨rfl, rfl⟩))
  go_wp2
  rw [HN.out]
  exact bodyPost_ret (v := .agg #[.int .i64 ((255 - (c - a) * 255 / sd) / 2 + nearD ((x - a) * 255) sd), .int .i64 ((255 - (d - b) * 255 / sd) / 2 + nearD ((y - b) * 255) sd)]) (by simp [results, Try.results74, go_sem, j0, j1]) rfl ⟨rfl, (by repeat (first | exact Below.refl _ _ | assumption | refine Below.drew ?_ | refine below_drewN ?_ _ | refine Below.alloc ?_ (by first | omega | (simp <;> omega)) _ | refine Below.setCell ?_ (by first | omega | (simp <;> omega)) _))⟩
set_option maxHeartbeats 2000000 in
theorem l07Normal_any (x y a b c d : Int) (w : World) (h : boxOk (a, b, c, d) = true) (hp : inBox (x, y) (a, b, c, d) = true) :
    Calls Try.prog 85 #[.agg #[.int .i64 x, .int .i64 y], .agg #[.int .i64 a, .int .i64 b, .int .i64 c, .int .i64 d]] w fun e w' =>
      e = .returned (.agg #[.int .i64 (nrmB (x, y) (a, b, c, d)).1, .int .i64 (nrmB (x, y) (a, b, c, d)).2]) ∧ Below w.heap.size w w' := by
  obtain ⟨⟨a0, a1⟩, ⟨b0, b1⟩, c1, d1⟩ := boxOk_iff.1 h
  obtain ⟨⟨x0, x1⟩, ⟨y0, y1⟩⟩ : (a ≤ x ∧ x ≤ c) ∧ (b ≤ y ∧ y ≤ d) := by
    unfold inBox at hp; simpa only [Bool.and_eq_true, inB_iff] using hp
  have HO := Lib.hid h
  clear h hp
  go_enter Try.func85, Try.ntmps85
  go_wp2_with fail
  have P0 : Blk (((w.alloc (.cells #[.int .i64 x, .int .i64 y] 96)).alloc (.cells #[.int .i64 a, .int .i64 b, .int .i64 c, .int .i64 d] 64)).alloc (.cells #[.int .i64 0, .int .i64 0] 96)) w.heap.size 96 #[.int .i64 x, .int .i64 y] := ((Blk.new _ _ _).alloc _).alloc _
  have K0 : Blk (((w.alloc (.cells #[.int .i64 x, .int .i64 y] 96)).alloc (.cells #[.int .i64 a, .int .i64 b, .int .i64 c, .int .i64 d] 64)).alloc (.cells #[.int .i64 0, .int .i64 0] 96)) (w.heap.size + 1) 64 #[.int .i64 a, .int .i64 b, .int .i64 c, .int .i64 d] := by have := (Blk.new (w.alloc (.cells #[.int .i64 x, .int .i64 y] 96)) 64 #[.int .i64 a, .int .i64 b, .int .i64 c, .int .i64 d]).alloc (.cells #[.int .i64 0, .int .i64 0] 96); simpa using this
  have J0 : Blk (((w.alloc (.cells #[.int .i64 x, .int .i64 y] 96)).alloc (.cells #[.int .i64 a, .int .i64 b, .int .i64 c, .int .i64 d] 64)).alloc (.cells #[.int .i64 0, .int .i64 0] 96)) (w.heap.size + 1 + 1) 96 #[.int .i64 0, .int .i64 0] := by have := Blk.new ((w.alloc (.cells #[.int .i64 x, .int .i64 y] 96)).alloc (.cells #[.int .i64 a, .int .i64 b, .int .i64 c, .int .i64 d] 64)) 96 #[.int .i64 0, .int .i64 0]; simpa using this
  have hB : Below w.heap.size w (((w.alloc (.cells #[.int .i64 x, .int .i64 y] 96)).alloc (.cells #[.int .i64 a, .int .i64 b, .int .i64 c, .int .i64 d] 64)).alloc (.cells #[.int .i64 0, .int .i64 0] 96)) := (by repeat (first | exact Below.refl _ _ | assumption | refine Below.drew ?_ | refine below_drewN ?_ _ | refine Below.alloc ?_ (by first | omega | (simp <;> omega)) _ | refine Below.setCell ?_ (by first | omega | (simp <;> omega)) _))
  generalize ((w.alloc (.cells #[.int .i64 x, .int .i64 y] 96)).alloc (.cells #[.int .i64 a, .int .i64 b, .int .i64 c, .int .i64 d] 64)).alloc (.cells #[.int .i64 0, .int .i64 0] 96) = v0 at *
  with_reducible refine (l07Side_any _ _ _ _ _ HO.out).mono ?_
  rintro e w1 ⟨rfl, hb1⟩
  replace hB := below_on hb1 hB
  replace P0 := P0.on hb1
  replace K0 := K0.on hb1
  replace J0 := J0.on hb1
  have p0 := P0.cell 0
  have p1 := P0.cell 1
  simp only [List.getElem?_toArray, List.getElem?_cons_succ, List.getElem?_cons_zero] at p0 p1
  have k0 := K0.cell 0
  have k1 := K0.cell 1
  have k2 := K0.cell 2
  have k3 := K0.cell 3
  simp only [List.getElem?_toArray, List.getElem?_cons_succ, List.getElem?_cons_zero] at k0 k1 k2 k3
  have j0 := J0.cell 0
  have j1 := J0.cell 1
  simp only [List.getElem?_toArray, List.getElem?_cons_succ, List.getElem?_cons_zero] at j0 j1
  have f0 := J0.frozen 0
  have f1 := J0.frozen 1
  have hj := J0.lt
  have hz := hB.size
  have hS : Hid (sideB (a, b, c, d) = sideB (a, b, c, d)) := Lib.hid rfl
  have s1 : 1 ≤ sideB (a, b, c, d) := by unfold sideB; simp only; omega
  have s2 : sideB (a, b, c, d) ≤ 4096 := by unfold sideB; simp only; omega
  obtain ⟨u0, u1⟩ := quo_bd (x := c - a) (s := sideB (a, b, c, d)) (by omega) (by unfold sideB; simp only; omega) s1
  obtain ⟨v0', v1'⟩ := quo_bd (x := d - b) (s := sideB (a, b, c, d)) (by omega) (by unfold sideB; simp only; omega) s1
  obtain ⟨n0, n1⟩ := nearD_bd (n := (x - a) * 255) (d := sideB (a, b, c, d)) (by omega) (by omega)
  obtain ⟨m0, m1⟩ := nearD_bd (n := (y - b) * 255) (d := sideB (a, b, c, d)) (by omega) (by omega)
  have HN : Hid (nrmB (x, y) (a, b, c, d) = ((255 - (c - a) * 255 / sideB (a, b, c, d)) / 2 + nearD ((x - a) * 255) (sideB (a, b, c, d)), (255 - (d - b) * 255 / sideB (a, b, c, d)) / 2 + nearD ((y - b) * 255) (sideB (a, b, c, d)))) := Lib.hid rfl
  generalize sideB (a, b, c, d) = sd at *
  clear hS
  go_wp2_with fail
  have ne1 : ¬ w.heap.size = w.heap.size + 1 + 1 := by omega
  have ne2 : ¬ w.heap.size + 1 + 1 = w.heap.size := by omega
  have o1 : IntKind.i64.wrap (x - a) = x - a := IntWalk.i64_in _ (by omega)
  have o2 : IntKind.i64.wrap ((x - a) * 255) = (x - a) * 255 := IntWalk.i64_in _ (by omega)
  have o3 : IntKind.i64.wrap (y - b) = y - b := IntWalk.i64_in _ (by omega)
  have o4 : IntKind.i64.wrap ((y - b) * 255) = (y - b) * 255 := IntWalk.i64_in _ (by omega)
  have o5 : IntKind.i64.wrap ((255 - (c - a) * 255 / sd) / 2 + nearD ((x - a) * 255) sd) = (255 - (c - a) * 255 / sd) / 2 + nearD ((x - a) * 255) sd := IntWalk.i64_in _ (by omega)
  have o6 : IntKind.i64.wrap ((255 - (d - b) * 255 / sd) / 2 + nearD ((y - b) * 255) sd) = (255 - (d - b) * 255 / sd) / 2 + nearD ((y - b) * 255) sd := IntWalk.i64_in _ (by omega)
  have z1 := fun W => l05Near_any ((x - a) * 255) sd W (by omega) (by omega) (by omega) (by omega)
  have z2 := fun W => l05Near_any ((y - b) * 255) sd W (by omega) (by omega) (by omega) (by omega)
  have Z1 := Lib.hid z1
  have Z2 := Lib.hid z2
  clear z1 z2
  go_region_held3 (fun w' => w'.cell? ⟨w.heap.size, 0, none⟩ = some (.int .i64 x) ∧ w'.cell? ⟨w.heap.size, 1, none⟩ = some (.int .i64 y) ∧ w'.cell? ⟨w.heap.size + 1, 0, none⟩ = some (.int .i64 a) ∧ w'.cell? ⟨w.heap.size + 1, 1, none⟩ = some (.int .i64 b)) (first | exact ⟨p0, p1, k0, k1⟩ | go_keep)
    (first | (go_at_call 30; (first | with_reducible refine (Z1.out _).mono ?_ | with_reducible refine (Z2.out _).mono ?_); rintro e w7 ⟨rfl, rfl⟩))
  go_wp2
  rw [HN.out]
  exact bodyPost_ret (v := .agg #[.int .i64 ((255 - (c - a) * 255 / sd) / 2 + nearD ((x - a) * 255) sd), .int .i64 ((255 - (d - b) * 255 / sd) / 2 + nearD ((y - b) * 255) sd)]) (by simp [results, Try.results85, go_sem, j0, j1]) rfl ⟨rfl, (by repeat (first | exact Below.refl _ _ | assumption | refine Below.drew ?_ | refine below_drewN ?_ _ | refine Below.alloc ?_ (by first | omega | (simp <;> omega)) _ | refine Below.setCell ?_ (by first | omega | (simp <;> omega)) _))⟩
end Go.Proofs.Ytbfilhpgekgmbaa
