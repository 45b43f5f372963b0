/- SmoothStroke of the reference. -/
import Derived.Test.YtpmaiklooapnfaaSm
import Derived.Deep.RegionHeld3
import Derived.StillTailTactics
import Derived.IntWalk
namespace Go.Proofs.Ytpmaiklooapnfaa
open Go.ChangeShapes Go.WideShapes Go.ChangeAt Go.RowKit
def smP (a b c : T3) : T3 := (nearD (a.1 + 2 * b.1 + c.1) 4, nearD (a.2.1 + 2 * b.2.1 + c.2.1) 4, b.2.2)
def smAt (xs : List T3) (k : Nat) : T3 := if 0 < k ∧ k + 1 < xs.length then smP (xs.getD (k - 1) (0, 0, 0)) (xs.getD k (0, 0, 0)) (xs.getD (k + 1) (0, 0, 0)) else xs.getD k (0, 0, 0)
def smN (xs : List T3) (k : Nat) : List T3 := (List.range k).map (smAt xs)
def smF (xs : List T3) : List T3 := smN xs xs.length
theorem smN_len (xs : List T3) (k : Nat) : (smN xs k).length = k := by simp [smN]
theorem smN_step (xs : List T3) (k : Nat) : smN xs (k + 1) = smN xs k ++ [smAt xs k] := by simp [smN, List.range_succ]
theorem smAt_mid {xs : List T3} {n k : Nat} {a b c : T3} (hl : xs.length = n) (hk : 0 < k) (hk2 : k + 1 < n) (ha : xs[k - 1]? = some a) (hb : xs[k]? = some b) (hc : xs[k + 1]? = some c) : smAt xs k = smP a b c := by
  unfold smAt
  rw [if_pos ⟨hk, by omega⟩, getD_of ha, getD_of hb, getD_of hc]
theorem smAt_end {xs : List T3} {k : Nat} {b : T3} (hk : ¬ (0 < k ∧ k + 1 < xs.length)) (hb : xs[k]? = some b) : smAt xs k = b := by
  unfold smAt
  rw [if_neg hk, getD_of hb]
theorem sm_start {xs : List T3} {n : Nat} (hl : xs.length = n) (hn : 0 < n) : smN xs 1 ++ xs.drop 1 = xs := by
  have hx : xs[0]? = some (xs[0]'(by omega)) := List.getElem?_eq_getElem (by omega)
  have h0 : smN xs 1 = [xs[0]'(by omega)] := by rw [show (1 : Nat) = 0 + 1 from rfl, smN_step, smAt_end (by omega) hx]; rfl
  rw [h0]
  have := drop_of hx
  rw [List.drop_zero] at this
  exact this.symm
theorem sm_end {xs : List T3} {n k : Nat} (hl : xs.length = n) (hk : k = n ∨ k + 1 = n) : smN xs k ++ xs.drop k = smF xs := by
  unfold smF
  rcases hk with rfl | rfl
  · rw [hl, List.drop_eq_nil_of_le (by omega), List.append_nil]
  · have hx : xs[k]? = some (xs[k]'(by omega)) := List.getElem?_eq_getElem (by omega)
    rw [hl, smN_step, smAt_end (by omega) hx, drop_of hx, List.drop_eq_nil_of_le (by omega)]
theorem sm_put {w : World} {base g n c k : Nat} {e : TypeId} {xs : List T3} {p : T3} (h : w.ownsRow base e 3 (.slice (some ⟨g, 0, none⟩) n c) n ((smN xs k ++ xs.drop k).flatMap c3)) (hl : xs.length = n) (hk : k < n) (hp : smAt xs k = p) :
    (((w.setCell ⟨g, k * 3, none⟩ (.int .i64 p.1)).setCell ⟨g, k * 3 + 1, none⟩ (.int .i64 p.2.1)).setCell ⟨g, k * 3 + 2, none⟩ (.int .i64 p.2.2)).ownsRow base e 3 (.slice (some ⟨g, 0, none⟩) n c) n ((smN xs (k + 1) ++ xs.drop (k + 1)).flatMap c3) := by
  have hx : xs[k]? = some (xs[k]'(by omega)) := List.getElem?_eq_getElem (by omega)
  have h1 := (((h.stored (k * 3) (.int .i64 p.1)).1.stored (k * 3 + 1) (.int .i64 p.2.1)).1.stored (k * 3 + 2) (.int .i64 p.2.2)).1
  rw [List.flatMap_append, over3 (by rw [flat_len c3_len, smN_len]) (by rw [flat_len c3_len, List.length_drop]; omega)] at h1
  rw [smN_step, hp, List.flatMap_append, flat_snoc]
  have hd : (List.flatMap c3 (xs.drop k)).drop 3 = List.flatMap c3 (xs.drop (k + 1)) := by rw [drop_of hx]; rfl
  rw [hd] at h1
  exact h1
set_option maxRecDepth 100000 in
set_option maxHeartbeats 8000000 in
theorem sSmooth_any (A : Option Addr) (n c : Nat) (xs : List T3) (w : World) (hr : RdL c3 3 w w.heap.size A n c xs) (hn : n ≤ 1048576) :
    Calls Try.prog 15 #[.agg #[.slice A n c]] w fun e w' => ∃ A' n' c', e = .returned (.tuple #[.agg #[.slice A' n' c'], .int .i64 (okE (strokeB xs))]) ∧ w'.ownsRow w.heap.size 77 3 (.slice A' n' c') n' ((okL (strokeB xs) (smF xs)).flatMap c3) ∧
      (okL (strokeB xs) (smF xs)).length = n' ∧ n' ≤ 1048576 ∧ Below w.heap.size w w' := by
  have hl := Lib.hid hr.len
  have K0 : Blk ((w.alloc (.cells #[.slice A n c] 28)).alloc (.cells #[.slice none 0 0] 28)) w.heap.size 28 #[.slice A n c] := (Blk.new _ _ _).alloc _
  have R0 : Blk ((w.alloc (.cells #[.slice A n c] 28)).alloc (.cells #[.slice none 0 0] 28)) (w.heap.size + 1) 28 #[.slice none 0 0] := by have h := Blk.new (w.alloc (.cells #[.slice A n c] 28)) 28 #[.slice none 0 0]; simpa using h
  have hB : Below w.heap.size w ((w.alloc (.cells #[.slice A n c] 28)).alloc (.cells #[.slice none 0 0] 28)) := (by repeat (first | exact Below.refl _ _ | assumption | refine Below.drew ?_ | refine below_drewN ?_ _ | refine Below.alloc ?_ (by first | omega | (simp <;> omega)) _ | refine Below.setCell ?_ (by first | omega | (simp <;> omega)) _))
  cases hok : strokeB xs with
  | false =>
    go_enter Try.func15, Try.ntmps15
    go_wp2_with fail
    generalize (w.alloc (.cells #[.slice A n c] 28)).alloc (.cells #[.slice none 0 0] 28) = v at *
    with_reducible refine (l02Stroke_any _ _ _ xs _ _ _ K0 (hr.on hB) hn).mono ?_
    rintro e w1 ⟨rfl, hbw1⟩
    replace R0 := R0.on hbw1
    replace hB := below_on hbw1 hB
    have zr := R0.lt
    have e0 := R0.cell 0
    simp only [List.getElem?_toArray, List.getElem?_cons_zero] at e0
    have f0 := R0.frozen 0
    go_wp2
    exact bodyPost_ret (v := .tuple #[.agg #[.slice none 0 0], .int .i64 1]) (by simp [results, Try.results15, go_sem, e0]) rfl ⟨none, 0, 0, rfl, World.ownsRow_nil _ _ _ _, rfl, by decide, (by repeat (first | exact Below.refl _ _ | assumption | refine Below.drew ?_ | refine below_drewN ?_ _ | refine Below.alloc ?_ (by first | omega | (simp <;> omega)) _ | refine Below.setCell ?_ (by first | omega | (simp <;> omega)) _))⟩
  | true =>
    have Hok := Lib.hid hok
    have hle := strokeB_len hok
    rw [hr.len] at hle
    go_enter Try.func15, Try.ntmps15
    go_wp2_with fail
    generalize (w.alloc (.cells #[.slice A n c] 28)).alloc (.cells #[.slice none 0 0] 28) = v at *
    replace hr := hr.on hB
    with_reducible refine (l02Stroke_any _ _ _ xs _ _ _ K0 hr hn).mono ?_
    rintro e w1 ⟨rfl, hbw1⟩
    replace R0 := R0.on hbw1
    replace K0 := K0.on hbw1
    replace hB := below_on hbw1 hB
    replace hr := hr.on hbw1
    go_wp2_with fail
    with_reducible refine (l02OwnStroke_any _ _ _ _ _ xs _ K0 hr (by omega) hn).mono ?_
    rintro e w2 ⟨A', c', rfl, o2, hbw2⟩
    clear hok
    obtain ⟨g, rfl, hg1, hg2⟩ := own_at o2 (by omega)
    have zk := K0.lt
    have zr := R0.lt
    go_wp2
    have O0 := Blk.new w2 28 #[.slice (some ⟨g, 0, none⟩) n c']
    have hbx : Below w2.heap.size w2 (w2.alloc (.cells #[.slice (some ⟨g, 0, none⟩) n c'] 28)) := (Below.refl _ _).alloc (Nat.le_refl _) _
    have o3 := own_below o2 hbx
    have hb3 : Below w1.heap.size w1 (w2.alloc (.cells #[.slice (some ⟨g, 0, none⟩) n c'] 28)) := below_on hbx hbw2
    have h92 := hbw2.size
    clear o2
    generalize w2.alloc (.cells #[.slice (some ⟨g, 0, none⟩) n c'] 28) = w3 at *
    generalize w2.heap.size = g9 at *
    clear hbx
    go_loopw [5, 6, 7, 8] (fun i _ _ _ wr => ∃ k : Nat, 1 ≤ k ∧ k ≤ n ∧ i = .int .i64 k ∧ Below w1.heap.size w1 wr ∧ Blk wr g9 28 #[.slice (some ⟨g, 0, none⟩) n c'] ∧ wr.ownsRow w1.heap.size 77 3 (.slice (some ⟨g, 0, none⟩) n c') n ((smN xs k ++ xs.drop k).flatMap c3)) (fun i _ _ _ _ => n - (intOf i).toNat)
    case atStart => exact ⟨1, by omega, by omega, rfl, hb3, O0, by rw [sm_start hl.out (by omega)]; exact o3⟩
    case round =>
      clear o3 O0 hb3
      obtain ⟨k, hk1, hk, rfl, hb, O0, hw⟩ := hrel
      have K1 := K0.on hb
      have hbr := below_on hb hB
      have e0 := K1.cell 0
      simp only [List.getElem?_toArray, List.getElem?_cons_zero] at e0
      have zk2 := K1.lt
      have zo := O0.lt
      by_cases hlt : k + 1 < n
      · obtain ⟨b, off, x, y, t, rfl, hbl, hx, q0, q1, q2⟩ := (hr.below hb).at3 (show k < n by omega)
        obtain ⟨b', off', x', y', t', he, _, hx', p0, p1, p2⟩ := (hr.below hb).at3 (show k - 1 < n by omega)
        cases he
        obtain ⟨b', off', x2, y2, t2, he, _, hx2, r0, r1, r2⟩ := (hr.below hb).at3 (show k + 1 < n by omega)
        cases he
        have hsz := hb.size
        replace hbl : b < wr.heap.size := by omega
        obtain ⟨⟨a0, a1⟩, ⟨a2, a3⟩, _, _⟩ := ptOk_iff.1 (strokeB_at Hok.out hx'.out)
        obtain ⟨⟨b0, b1⟩, ⟨b2, b3⟩, _, _⟩ := ptOk_iff.1 (strokeB_at Hok.out hx.out)
        obtain ⟨⟨d0, d1⟩, ⟨d2, d3⟩, _, _⟩ := ptOk_iff.1 (strokeB_at Hok.out hx2.out)
        have HV := Lib.hid (smAt_mid hl.out (by omega) hlt hx'.out hx.out hx2.out)
        have i1 : (k : Int) + 1 < (n : Int) := by omega
        have i2 : (1 : Int) ≤ (k : Int) := by omega
        have HR := Lib.hid hr
        have HW := Lib.hid hw
        clear hr hw K1
        go_wp2
        have PA := ((Blk.new wr 77 #[.int .i64 x', .int .i64 y', .int .i64 t']).alloc (.cells #[.int .i64 x, .int .i64 y, .int .i64 t] 77)).alloc (.cells #[.int .i64 x2, .int .i64 y2, .int .i64 t2] 77)
        have PB := (Blk.new (wr.alloc (.cells #[.int .i64 x', .int .i64 y', .int .i64 t'] 77)) 77 #[.int .i64 x, .int .i64 y, .int .i64 t]).alloc (.cells #[.int .i64 x2, .int .i64 y2, .int .i64 t2] 77)
        have PC := Blk.new ((wr.alloc (.cells #[.int .i64 x', .int .i64 y', .int .i64 t'] 77)).alloc (.cells #[.int .i64 x, .int .i64 y, .int .i64 t] 77)) 77 #[.int .i64 x2, .int .i64 y2, .int .i64 t2]
        rw [World.size_alloc] at PB
        rw [World.size_alloc, World.size_alloc] at PC
        have hbW : Below wr.heap.size wr (((wr.alloc (.cells #[.int .i64 x', .int .i64 y', .int .i64 t'] 77)).alloc (.cells #[.int .i64 x, .int .i64 y, .int .i64 t] 77)).alloc (.cells #[.int .i64 x2, .int .i64 y2, .int .i64 t2] 77)) := (by repeat (first | exact Below.refl _ _ | assumption | refine Below.drew ?_ | refine below_drewN ?_ _ | refine Below.alloc ?_ (by first | omega | (simp <;> omega)) _ | refine Below.setCell ?_ (by first | omega | (simp <;> omega)) _))
        replace O0 := O0.on hbW
        have hgl : g < wr.heap.size := (HW.out.lt g rfl).2
        have hw2 := own_below HW.out hbW
        replace hb := below_on hbW hb
        clear hbW q0 q1 q2 p0 p1 p2 r0 r1 r2 e0 HW hbl zk2 hbr
        generalize ((wr.alloc (.cells #[.int .i64 x', .int .i64 y', .int .i64 t'] 77)).alloc (.cells #[.int .i64 x, .int .i64 y, .int .i64 t] 77)).alloc (.cells #[.int .i64 x2, .int .i64 y2, .int .i64 t2] 77) = wa at *
        generalize wr.heap.size = h0 at *
        have u0 := O0.cell 0
        simp only [List.getElem?_toArray, List.getElem?_cons_zero] at u0
        have aa0 := PA.cell 0
        have aa1 := PA.cell 1
        have aa2 := PA.cell 2
        simp only [List.getElem?_toArray, List.getElem?_cons_succ, List.getElem?_cons_zero] at aa0 aa1 aa2
        have bb0 := PB.cell 0
        have bb1 := PB.cell 1
        have bb2 := PB.cell 2
        simp only [List.getElem?_toArray, List.getElem?_cons_succ, List.getElem?_cons_zero] at bb0 bb1 bb2
        have dd0 := PC.cell 0
        have dd1 := PC.cell 1
        have dd2 := PC.cell 2
        simp only [List.getElem?_toArray, List.getElem?_cons_succ, List.getElem?_cons_zero] at dd0 dd1 dd2
        obtain ⟨⟨s0, e0⟩, f0⟩ := own_cell hw2 (j := k * 3) (by omega)
        obtain ⟨⟨s1, e1⟩, f1⟩ := own_cell hw2 (j := k * 3 + 1) (by omega)
        obtain ⟨⟨s2, e2⟩, f2⟩ := own_cell hw2 (j := k * 3 + 2) (by omega)
        have z1 := fun Z => l05Near_any (x' + 2 * x + x2) 4 Z (by omega) (by omega) (by omega) (by omega)
        have z2 := fun Z => l05Near_any (y' + 2 * y + y2) 4 Z (by omega) (by omega) (by omega) (by omega)
        obtain ⟨px, hpx⟩ : ∃ px, nearD (x' + 2 * x + x2) 4 = px := ⟨_, rfl⟩
        obtain ⟨py, hpy⟩ : ∃ py, nearD (y' + 2 * y + y2) 4 = py := ⟨_, rfl⟩
        simp only [hpx] at z1
        simp only [hpy] at z2
        have HV2 : Hid (smAt xs k = (px, py, t)) := by show _ = _; rw [HV.out, ← hpx, ← hpy]; rfl
        clear hpx hpy HV
        have Z1 := Lib.hid z1
        have Z2 := Lib.hid z2
        have j1 : (0 : Int) ≤ (k : Int) := by omega
        have j2 : (k : Int) < (n : Int) := by omega
        have n1 : ¬ g9 = g := by omega
        have n2 : ¬ h0 = g := by omega
        have n3 : ¬ h0 + 1 = g := by omega
        have n4 : ¬ h0 + 1 + 1 = g := by omega
        have n5 : ¬ g = g9 := by omega
        have n6 : ¬ g = h0 := by omega
        have n7 : ¬ g = h0 + 1 := by omega
        have n8 : ¬ g = h0 + 1 + 1 := by omega
        have o1 : IntKind.i64.wrap (2 * x) = 2 * x := IntWalk.i64_in _ (by omega)
        have o2 : IntKind.i64.wrap (x' + 2 * x) = x' + 2 * x := IntWalk.i64_in _ (by omega)
        have o3 : IntKind.i64.wrap (x' + 2 * x + x2) = x' + 2 * x + x2 := IntWalk.i64_in _ (by omega)
        have o4 : IntKind.i64.wrap (2 * y) = 2 * y := IntWalk.i64_in _ (by omega)
        have o5 : IntKind.i64.wrap (y' + 2 * y) = y' + 2 * y := IntWalk.i64_in _ (by omega)
        have o6 : IntKind.i64.wrap (y' + 2 * y + y2) = y' + 2 * y + y2 := IntWalk.i64_in _ (by omega)
        have HW := Lib.hid hw2
        have HO := Lib.hid O0
        clear z1 z2 PA PB PC a0 a1 a2 a3 b0 b1 b2 b3 d0 d1 d2 d3 hw2 O0 K0 R0 aa2 dd2
        refine wp_region_still_tail 27 (by kernel_rfl) (by kernel_rfl) ?_
        simp only [List.take_succ_cons, List.take_zero, List.drop_succ_cons, List.drop_zero]
        repeat still_step
        still_call ((Z1.out wa.drew).mono fun _ _ h => ⟨h.1, h.2.symm⟩)
        repeat still_step
        still_call ((Z2.out wa.drew).mono fun _ _ h => ⟨h.1, h.2.symm⟩)
        repeat still_step
        refine wpStill_nil ?_
        change wpList _ _ _ _ _ wa.drew
        have hb8 := hb.drew
        have O8 := HO.out.drew
        have W8 := HW.out.drew
        replace e0 : wa.drew.cell? ⟨g, k * 3, none⟩ = _ := e0
        replace e1 : wa.drew.cell? ⟨g, k * 3 + 1, none⟩ = _ := e1
        replace e2 : wa.drew.cell? ⟨g, k * 3 + 2, none⟩ = _ := e2
        replace f0 : wa.drew.frozen? ⟨g, k * 3, none⟩ = _ := f0
        replace f1 : wa.drew.frozen? ⟨g, k * 3 + 1, none⟩ = _ := f1
        replace f2 : wa.drew.frozen? ⟨g, k * 3 + 2, none⟩ = _ := f2
        have O9 := Lib.hid O8
        have W9 := Lib.hid W8
        clear o1 o2 o3 o4 o5 o6 hb HO HW O8 W8 Z1 Z2 u0 aa0 aa1 bb0 bb1 bb2 dd0 dd1 n2 n3 n4 n5 n6 n7 n8
        generalize wa.drew = wz at *
        go_wp2_with fail
        refine ⟨⟨k + 1, by omega, by omega, by go_num, ((hb8.setCell hg1 _).setCell hg1 _).setCell hg1 _, ?_, ?_⟩, by simp [intOf]; omega⟩
        · exact ((O9.out.far n1 _).far n1 _).far n1 _
        · exact sm_put (p := (px, py, t)) W9.out hl.out (by omega) HV2.out
      · have HE := Lib.hid (sm_end hl.out (k := k) (by omega))
        replace R0 := R0.on hb
        have j0 := R0.cell 0
        simp only [List.getElem?_toArray, List.getElem?_cons_zero] at j0
        have f0 := R0.frozen 0
        have u0 := O0.cell 0
        simp only [List.getElem?_toArray, List.getElem?_cons_zero] at u0
        clear hr K1
        have hnn : ¬ (k : Int) + 1 < (n : Int) := by omega
        have zr2 := R0.lt
        have HW := Lib.hid hw
        clear hw
        go_wp2
        rw [show okL true (smF xs) = smF xs from rfl, show okE true = 0 from rfl]
        refine bodyPost_ret (v := .tuple #[.agg #[.slice (some ⟨g, 0, none⟩) n c'], .int .i64 0]) (by simp [results, Try.results15, go_sem, j0]) rfl ⟨some ⟨g, 0, none⟩, n, c', rfl, ?_, ?_, hn, (by repeat (first | exact Below.refl _ _ | assumption | refine Below.drew ?_ | refine below_drewN ?_ _ | refine Below.alloc ?_ (by first | omega | (simp <;> omega)) _ | refine Below.setCell ?_ (by first | omega | (simp <;> omega)) _))⟩
        · have h9 := HW.out
          rw [HE.out] at h9
          exact own_mono (own_far h9 (fun q hq => by cases hq; simp only; omega) _) hB.size
        · show (smN xs xs.length).length = n; rw [smN_len, hl.out]
end Go.Proofs.Ytpmaiklooapnfaa
