/- SmoothStroke of the program. -/
import Derived.Test.YtpmaiklooapnfaaSs
namespace Go.Proofs.Ytpmaiklooapnfaa
open Go.ChangeShapes Go.WideShapes Go.ChangeAt Go.RowKit
theorem over_two {l r : List Value} {m : Nat} {a b : Value} (h : l.length = m) (hr : 2 ≤ r.length) : ((l ++ r).set m a).set (m + 1) b = (l ++ [a, b]) ++ r.drop 2 := by
  match r, hr with
  | x :: y :: r, _ =>
    rw [List.set_append_right _ _ (by omega), show m - l.length = 0 by omega, List.set_cons_zero, List.set_append_right _ _ (by omega), show m + 1 - l.length = 1 by omega]
    simp
theorem sm_put2 {w : World} {base g n c k : Nat} {e : TypeId} {xs : List T3} {p q : T3} (h : w.ownsRow base e 3 (.slice (some ⟨g, 0, none⟩) n c) n ((((smN xs k ++ xs.drop k).flatMap c3).set (k * 3) (.int .i64 p.1)).set (k * 3 + 1) (.int .i64 p.2.1))) (hl : xs.length = n) (hk : k < n) (hq : xs[k]? = some q) (ht : q.2.2 = p.2.2) (hp : smAt xs k = p) :
    w.ownsRow base e 3 (.slice (some ⟨g, 0, none⟩) n c) n ((smN xs (k + 1) ++ xs.drop (k + 1)).flatMap c3) := by
  rw [List.flatMap_append, over_two (by rw [flat_len c3_len, smN_len]) (by rw [flat_len c3_len, List.length_drop]; omega)] at h
  rw [smN_step, hp, List.flatMap_append, flat_snoc]
  have hd : (List.flatMap c3 (xs.drop k)).drop 2 = [.int .i64 p.2.2] ++ List.flatMap c3 (xs.drop (k + 1)) := by rw [drop_of hq, ← ht]; rfl
  rw [hd, ← List.append_assoc] at h
  have he : (List.flatMap c3 (smN xs k) ++ [.int .i64 p.1, .int .i64 p.2.1]) ++ [.int .i64 p.2.2] = List.flatMap c3 (smN xs k) ++ c3 p := by rw [List.append_assoc]; rfl
  rw [he] at h
  exact h
theorem cell_farB {w : World} {b o g j : Nat} {v u : Value} (h : w.cell? ⟨b, o, none⟩ = some v) (hn : ¬ b = g) : (w.setCell ⟨g, j, none⟩ u).cell? ⟨b, o, none⟩ = some v :=
  (World.cell?_setCell_other _ _ _ _ (by intro hq; have := congrArg Addr.block hq; simp only at this; exact hn (by first | exact this | exact this.symm))).trans h
set_option maxRecDepth 100000 in
set_option maxHeartbeats 16000000 in
theorem iSmooth_any (A : Option Addr) (n c : Nat) (xs : List T3) (w : World) (hr : RdL c3 3 w w.heap.size A n c xs) (hn : n ≤ 1048576) :
    Calls Try.prog 17 #[.agg #[.slice A n c]] w fun e w' => ∃ A' n' c', e = .returned (.tuple #[.agg #[.slice A' n' c'], .int .i64 (okE (strokeB xs))]) ∧ w'.ownsRow w.heap.size 77 3 (.slice A' n' c') n' ((okL (strokeB xs) (smF xs)).flatMap c3) ∧
      (okL (strokeB xs) (smF xs)).length = n' ∧ n' ≤ 1048576 ∧ Below w.heap.size w w' := by
  have hl := Lib.hid hr.len
  have K0 : Blk ((w.alloc (.cells #[.slice A n c] 28)).alloc (.cells #[.slice none 0 0] 28)) w.heap.size 28 #[.slice A n c] := (Blk.new _ _ _).alloc _
  have R0 : Blk ((w.alloc (.cells #[.slice A n c] 28)).alloc (.cells #[.slice none 0 0] 28)) (w.heap.size + 1) 28 #[.slice none 0 0] := by have h := Blk.new (w.alloc (.cells #[.slice A n c] 28)) 28 #[.slice none 0 0]; simpa using h
  have hB : Below w.heap.size w ((w.alloc (.cells #[.slice A n c] 28)).alloc (.cells #[.slice none 0 0] 28)) := (by repeat (first | exact Below.refl _ _ | assumption | refine Below.drew ?_ | refine below_drewN ?_ _ | refine Below.alloc ?_ (by first | omega | (simp <;> omega)) _ | refine Below.setCell ?_ (by first | omega | (simp <;> omega)) _))
  go_enter Try.func17, Try.ntmps17
  go_wp2_with fail
  generalize (w.alloc (.cells #[.slice A n c] 28)).alloc (.cells #[.slice none 0 0] 28) = v at *
  replace hr := hr.on hB
  have e0 := K0.cell 0
  simp only [List.getElem?_toArray, List.getElem?_cons_zero] at e0
  go_wp2_with fail
  with_reducible refine (iValidStroke_any _ _ _ xs _ hr hn).mono ?_
  rintro e w1 ⟨rfl, hbw1⟩
  clear e0
  replace R0 := R0.on hbw1
  replace K0 := K0.on hbw1
  replace hB := below_on hbw1 hB
  replace hr := hr.on hbw1
  cases hok : strokeB xs with
  | false =>
    have zr := R0.lt
    have e0 := R0.cell 0
    simp only [List.getElem?_toArray, List.getElem?_cons_zero] at e0
    have f0 := R0.frozen 0
    clear hr
    go_wp2
    exact bodyPost_ret (v := .tuple #[.agg #[.slice none 0 0], .int .i64 1]) (by simp [results, Try.results17, go_sem, e0]) rfl ⟨none, 0, 0, by simp [okE, hok], by rw [hok]; exact World.ownsRow_nil _ _ _ _, by rw [hok]; rfl, by decide, (by repeat (first | exact Below.refl _ _ | assumption | refine Below.drew ?_ | refine below_drewN ?_ _ | refine Below.alloc ?_ (by first | omega | (simp <;> omega)) _ | refine Below.setCell ?_ (by first | omega | (simp <;> omega)) _))⟩
  | true =>
    have Hok := Lib.hid hok
    have hle := strokeB_len hok
    rw [hl.out] at hle
    have HR := Lib.hid hr
    clear hr
    have e0 := K0.cell 0
    simp only [List.getElem?_toArray, List.getElem?_cons_zero] at e0
    go_wp2_with fail
    clear e0 hok
    with_reducible refine (clonePoint_any _ _ _ xs _ HR.out (by omega) hn).mono ?_
    rintro e w2 ⟨A', c', rfl, o2, hbw2⟩
    obtain ⟨g, rfl, hg1, hg2⟩ := own_at o2 (by omega)
    have zk := K0.lt
    have zr := R0.lt
    go_wp2
    have O0 := Blk.new w2 28 #[.slice (some ⟨g, 0, none⟩) n c']
    have hbx : Below w2.heap.size w2 (w2.alloc (.cells #[.slice (some ⟨g, 0, none⟩) n c'] 28)) := (Below.refl _ _).alloc (Nat.le_refl _) _
    have o3 := own_below o2 hbx
    have hb3 : Below w1.heap.size w1 (w2.alloc (.cells #[.slice (some ⟨g, 0, none⟩) n c'] 28)) := below_on hbx hbw2
    have h92 := hbw2.size
    clear o2
    generalize w2.alloc (.cells #[.slice (some ⟨g, 0, none⟩) n c'] 28) = w3 at *
    generalize w2.heap.size = g9 at *
    clear hbx
    go_loopw [5] (fun i wr => ∃ k : Nat, 1 ≤ k ∧ k ≤ n ∧ i = .int .i64 k ∧ Below w1.heap.size w1 wr ∧ Blk wr g9 28 #[.slice (some ⟨g, 0, none⟩) n c'] ∧ wr.ownsRow w1.heap.size 77 3 (.slice (some ⟨g, 0, none⟩) n c') n ((smN xs k ++ xs.drop k).flatMap c3)) (fun i _ => n - (intOf i).toNat)
    case atStart => exact ⟨1, by omega, by omega, rfl, hb3, O0, by rw [sm_start hl.out (by omega)]; exact o3⟩
    case round =>
      clear o3 O0 hb3
      obtain ⟨k, hk1, hk, rfl, hb, O0, hw⟩ := hrel
      have K1 := K0.on hb
      have hbr := below_on hb hB
      have e0 := K1.cell 0
      simp only [List.getElem?_toArray, List.getElem?_cons_zero] at e0
      have zk2 := K1.lt
      have zo := O0.lt
      by_cases hlt : k + 1 < n
      · obtain ⟨b, off, x, y, t, rfl, hbl, hx, q0, q1, q2⟩ := (HR.out.below hb).at3 (show k < n by omega)
        obtain ⟨b', off', x', y', t', he, _, hx', p0, p1, p2⟩ := (HR.out.below hb).at3 (show k - 1 < n by omega)
        cases he
        obtain ⟨b', off', x2, y2, t2, he, _, hx2, r0, r1, r2⟩ := (HR.out.below hb).at3 (show k + 1 < n by omega)
        cases he
        have hsz := hb.size
        replace hbl : b < wr.heap.size := by omega
        obtain ⟨⟨a0, a1⟩, ⟨a2, a3⟩, _, _⟩ := ptOk_iff.1 (strokeB_at Hok.out hx'.out)
        obtain ⟨⟨b0, b1⟩, ⟨b2, b3⟩, _, _⟩ := ptOk_iff.1 (strokeB_at Hok.out hx.out)
        obtain ⟨⟨d0, d1⟩, ⟨d2, d3⟩, _, _⟩ := ptOk_iff.1 (strokeB_at Hok.out hx2.out)
        have HV := Lib.hid (smAt_mid hl.out (by omega) hlt hx'.out hx.out hx2.out)
        have i1 : (k : Int) + 1 < (n : Int) := by omega
        have i2 : (1 : Int) ≤ (k : Int) := by omega
        have j1 : (0 : Int) ≤ (k : Int) := by omega
        have j2 : (k : Int) < (n : Int) := by omega
        have j3 : (0 : Int) ≤ (k : Int) - 1 := by omega
        have j4 : (k : Int) - 1 < (n : Int) := by omega
        have j5 : (0 : Int) ≤ (k : Int) + 1 := by omega
        have v1 : IntKind.i64.wrap ((k : Int) - 1) = (k : Int) - 1 := IntWalk.i64_in _ (by omega)
        have v2 : IntKind.i64.wrap ((k : Int) + 1) = (k : Int) + 1 := IntWalk.i64_in _ (by omega)
        have v3 : ((k : Int) - 1).toNat = k - 1 := by omega
        have v4 : ((k : Int) + 1).toNat = k + 1 := by omega
        have o1 : IntKind.i64.wrap (2 * x) = 2 * x := IntWalk.i64_in _ (by omega)
        have o2 : IntKind.i64.wrap (x' + 2 * x) = x' + 2 * x := IntWalk.i64_in _ (by omega)
        have o3 : IntKind.i64.wrap (x' + 2 * x + x2) = x' + 2 * x + x2 := IntWalk.i64_in _ (by omega)
        have o4 : IntKind.i64.wrap (2 * y) = 2 * y := IntWalk.i64_in _ (by omega)
        have o5 : IntKind.i64.wrap (y' + 2 * y) = y' + 2 * y := IntWalk.i64_in _ (by omega)
        have o6 : IntKind.i64.wrap (y' + 2 * y + y2) = y' + 2 * y + y2 := IntWalk.i64_in _ (by omega)
        have z1 := fun Z => nearestDiv_any (x' + 2 * x + x2) 4 Z (by omega) (by omega) (by omega) (by omega)
        have z2 := fun Z => nearestDiv_any (y' + 2 * y + y2) 4 Z (by omega) (by omega) (by omega) (by omega)
        obtain ⟨px, hpx⟩ : ∃ px, nearD (x' + 2 * x + x2) 4 = px := ⟨_, rfl⟩
        obtain ⟨py, hpy⟩ : ∃ py, nearD (y' + 2 * y + y2) 4 = py := ⟨_, rfl⟩
        simp only [hpx] at z1
        simp only [hpy] at z2
        have HV2 : Hid (smAt xs k = (px, py, t)) := by show _ = _; rw [HV.out, ← hpx, ← hpy]; rfl
        clear hpx hpy HV
        have Z1 := Lib.hid z1
        have Z2 := Lib.hid z2
        have HW := Lib.hid hw
        have HO := Lib.hid O0
        have Hb := Lib.hid hb
        have hgl : g < wr.heap.size := (hw.lt g rfl).2
        clear hw K1 O0 hb z1 z2 a0 a1 a2 a3 b0 b1 b2 b3 d0 d1 d2 d3 hx' hx2
        go_wp2
        go_region_held3 (fun w' => w'.cell? ⟨w.heap.size, 0, none⟩ = some (.slice (some ⟨b, off, none⟩) n c) ∧ w'.cell? ⟨b, off + (k - 1) * 3, none⟩ = some (.int .i64 x') ∧ w'.cell? ⟨b, off + (k - 1) * 3 + 1, none⟩ = some (.int .i64 y') ∧ w'.cell? ⟨b, off + (k - 1) * 3 + 2, none⟩ = some (.int .i64 t') ∧ w'.cell? ⟨b, off + k * 3, none⟩ = some (.int .i64 x) ∧ w'.cell? ⟨b, off + k * 3 + 1, none⟩ = some (.int .i64 y) ∧ w'.cell? ⟨b, off + k * 3 + 2, none⟩ = some (.int .i64 t) ∧ w'.cell? ⟨b, off + (k + 1) * 3, none⟩ = some (.int .i64 x2) ∧ w'.cell? ⟨b, off + (k + 1) * 3 + 1, none⟩ = some (.int .i64 y2) ∧ w'.cell? ⟨b, off + (k + 1) * 3 + 2, none⟩ = some (.int .i64 t2)) (first | exact ⟨e0, p0, p1, p2, q0, q1, q2, r0, r1, r2⟩ | (refine ⟨?_, ?_, ?_, ?_, ?_, ?_, ?_, ?_, ?_, ?_⟩ <;> (refine (Below.cell (show Below wr.heap.size wr _ from (by repeat (first | exact Below.refl _ _ | assumption | refine Below.drew ?_ | refine below_drewN ?_ _ | refine Below.alloc ?_ (by first | omega | (simp <;> omega)) _ | refine Below.setCell ?_ (by first | omega | (simp <;> omega)) _))) (by simp only; omega)).trans ?_; assumption)) | go_keep) (fail)
        · have Q0 := ((Blk.new wr 77 #[.int .i64 x', .int .i64 y', .int .i64 t']).alloc (.cells #[.int .i64 x, .int .i64 y, .int .i64 t] 77)).alloc (.cells #[.int .i64 x2, .int .i64 y2, .int .i64 t2] 77)
          have Q1 := (Blk.new (wr.alloc (.cells #[.int .i64 x', .int .i64 y', .int .i64 t'] 77)) 77 #[.int .i64 x, .int .i64 y, .int .i64 t]).alloc (.cells #[.int .i64 x2, .int .i64 y2, .int .i64 t2] 77)
          have Q2 := Blk.new ((wr.alloc (.cells #[.int .i64 x', .int .i64 y', .int .i64 t'] 77)).alloc (.cells #[.int .i64 x, .int .i64 y, .int .i64 t] 77)) 77 #[.int .i64 x2, .int .i64 y2, .int .i64 t2]
          rw [World.size_alloc] at Q1
          rw [World.size_alloc, World.size_alloc] at Q2
          replace Q0 := Q0.drew
          replace Q1 := Q1.drew
          replace Q2 := Q2.drew
          have hbW : Below wr.heap.size wr (((wr.alloc (.cells #[.int .i64 x', .int .i64 y', .int .i64 t'] 77)).alloc (.cells #[.int .i64 x, .int .i64 y, .int .i64 t] 77)).alloc (.cells #[.int .i64 x2, .int .i64 y2, .int .i64 t2] 77)).drew := (by repeat (first | exact Below.refl _ _ | assumption | refine Below.drew ?_ | refine below_drewN ?_ _ | refine Below.alloc ?_ (by first | omega | (simp <;> omega)) _ | refine Below.setCell ?_ (by first | omega | (simp <;> omega)) _))
          have O1 := HO.out.on hbW
          have hw2 := own_below HW.out hbW
          have hb2 := below_on hbW Hb.out
          go_split_ands
          clear hbW q0 q1 q2 p0 p1 p2 r0 r1 r2 e0 hbl zk2 hbr HO HW Hb
          generalize (((wr.alloc (.cells #[.int .i64 x', .int .i64 y', .int .i64 t'] 77)).alloc (.cells #[.int .i64 x, .int .i64 y, .int .i64 t] 77)).alloc (.cells #[.int .i64 x2, .int .i64 y2, .int .i64 t2] 77)).drew = wa at *
          generalize wr.heap.size = h0 at *
          generalize hh1 : h0 + 1 = h1 at *
          generalize hh2 : h1 + 1 = h2 at *
          have u0 := O1.cell 0
          simp only [List.getElem?_toArray, List.getElem?_cons_zero] at u0
          have aa0 := Q0.cell 0
          have aa1 := Q0.cell 1
          have aa2 := Q0.cell 2
          simp only [List.getElem?_toArray, List.getElem?_cons_succ, List.getElem?_cons_zero] at aa0 aa1 aa2
          have bb0 := Q1.cell 0
          have bb1 := Q1.cell 1
          have bb2 := Q1.cell 2
          simp only [List.getElem?_toArray, List.getElem?_cons_succ, List.getElem?_cons_zero] at bb0 bb1 bb2
          have dd0 := Q2.cell 0
          have dd1 := Q2.cell 1
          have dd2 := Q2.cell 2
          simp only [List.getElem?_toArray, List.getElem?_cons_succ, List.getElem?_cons_zero] at dd0 dd1 dd2
          have n1 : ¬ g9 = g := by omega
          have n2 : ¬ h0 = g := by omega
          have n3 : ¬ h1 = g := by omega
          have n4 : ¬ h2 = g := by omega
          clear hh1 hh2 Q0 Q1 Q2 aa2 bb2 dd2
          have HO := Lib.hid O1
          have HW := Lib.hid hw2
          have Hb := Lib.hid hb2
          clear O1 hw2 hb2
          go_wp2_with fail
          refine wp_region_still_tail 15 (by kernel_rfl) (by kernel_rfl) ?_
          simp only [List.take_succ_cons, List.take_zero, List.drop_succ_cons, List.drop_zero]
          repeat still_step
          still_call ((Z1.out wa.drew).mono fun _ _ h => ⟨h.1, h.2.symm⟩)
          repeat still_step
          refine wpStill_nil ?_
          change wpList _ _ _ _ _ wa.drew
          replace u0 : wa.drew.cell? ⟨g9, 0, none⟩ = _ := u0
          replace aa1 : wa.drew.cell? ⟨h0, 1, none⟩ = _ := aa1
          replace bb1 : wa.drew.cell? ⟨h1, 1, none⟩ = _ := bb1
          replace dd1 : wa.drew.cell? ⟨h2, 1, none⟩ = _ := dd1
          replace HW : Hid (wa.drew.ownsRow _ _ _ _ _ _) := Lib.hid HW.out.drew
          replace HO : Hid (Blk wa.drew _ _ _) := Lib.hid HO.out.drew
          replace Hb : Hid (Below _ _ wa.drew) := Lib.hid Hb.out.drew
          clear aa0 bb0 dd0 Z1 o1 o2 o3
          generalize wa.drew = wz at *
          obtain ⟨⟨s0, e0⟩, f0⟩ := own_cell HW.out (j := k * 3) (by omega)
          have uu := cell_farB (j := k * 3) (u := .int .i64 px) u0 n1
          have a9 := cell_farB (j := k * 3) (u := .int .i64 px) aa1 n2
          have b9 := cell_farB (j := k * 3) (u := .int .i64 px) bb1 n3
          have d9 := cell_farB (j := k * 3) (u := .int .i64 px) dd1 n4
          have W9 := Lib.hid (HW.out.stored (k * 3) (.int .i64 px)).1
          have O9 := Lib.hid (HO.out.far (p := ⟨g, k * 3, none⟩) n1 (.int .i64 px))
          have B9 := Lib.hid (Hb.out.setCell (p := ⟨g, k * 3, none⟩) hg1 (.int .i64 px))
          clear u0 aa1 bb1 dd1
          go_wp2_with fail
          generalize wz.setCell ⟨g, k * 3, none⟩ (.int .i64 px) = wy at *
          clear e0 f0 HO HW Hb
          refine wp_region_still_tail 15 (by kernel_rfl) (by kernel_rfl) ?_
          simp only [List.take_succ_cons, List.take_zero, List.drop_succ_cons, List.drop_zero]
          repeat still_step
          still_call ((Z2.out wy.drew).mono fun _ _ h => ⟨h.1, h.2.symm⟩)
          repeat still_step
          refine wpStill_nil ?_
          change wpList _ _ _ _ _ wy.drew
          replace W9 : Hid (wy.drew.ownsRow _ _ _ _ _ _) := Lib.hid W9.out.drew
          replace O9 : Hid (Blk wy.drew _ _ _) := Lib.hid O9.out.drew
          replace B9 : Hid (Below _ _ wy.drew) := Lib.hid B9.out.drew
          clear uu a9 b9 d9 Z2 o4 o5 o6
          generalize wy.drew = wx at *
          obtain ⟨⟨s0, e0⟩, f0⟩ := own_cell W9.out (j := k * 3 + 1) (by omega)
          go_wp2_with fail
          refine ⟨⟨k + 1, by omega, by omega, by go_num, B9.out.setCell hg1 _, O9.out.far n1 _, ?_⟩, by simp [intOf]; omega⟩
          exact sm_put2 (p := (px, py, t)) (q := (x, y, t)) (W9.out.stored (k * 3 + 1) (.int .i64 py)).1 hl.out (by omega) hx.out rfl HV2.out
        · have Q0 := ((Blk.new wr 77 #[.int .i64 x', .int .i64 y', .int .i64 t']).alloc (.cells #[.int .i64 x2, .int .i64 y2, .int .i64 t2] 77)).alloc (.cells #[.int .i64 x, .int .i64 y, .int .i64 t] 77)
          have Q1 := (Blk.new (wr.alloc (.cells #[.int .i64 x', .int .i64 y', .int .i64 t'] 77)) 77 #[.int .i64 x2, .int .i64 y2, .int .i64 t2]).alloc (.cells #[.int .i64 x, .int .i64 y, .int .i64 t] 77)
          have Q2 := Blk.new ((wr.alloc (.cells #[.int .i64 x', .int .i64 y', .int .i64 t'] 77)).alloc (.cells #[.int .i64 x2, .int .i64 y2, .int .i64 t2] 77)) 77 #[.int .i64 x, .int .i64 y, .int .i64 t]
          rw [World.size_alloc] at Q1
          rw [World.size_alloc, World.size_alloc] at Q2
          replace Q0 := Q0.drew
          replace Q1 := Q1.drew
          replace Q2 := Q2.drew
          have hbW : Below wr.heap.size wr (((wr.alloc (.cells #[.int .i64 x', .int .i64 y', .int .i64 t'] 77)).alloc (.cells #[.int .i64 x2, .int .i64 y2, .int .i64 t2] 77)).alloc (.cells #[.int .i64 x, .int .i64 y, .int .i64 t] 77)).drew := (by repeat (first | exact Below.refl _ _ | assumption | refine Below.drew ?_ | refine below_drewN ?_ _ | refine Below.alloc ?_ (by first | omega | (simp <;> omega)) _ | refine Below.setCell ?_ (by first | omega | (simp <;> omega)) _))
          have O1 := HO.out.on hbW
          have hw2 := own_below HW.out hbW
          have hb2 := below_on hbW Hb.out
          go_split_ands
          clear hbW q0 q1 q2 p0 p1 p2 r0 r1 r2 e0 hbl zk2 hbr HO HW Hb
          generalize (((wr.alloc (.cells #[.int .i64 x', .int .i64 y', .int .i64 t'] 77)).alloc (.cells #[.int .i64 x2, .int .i64 y2, .int .i64 t2] 77)).alloc (.cells #[.int .i64 x, .int .i64 y, .int .i64 t] 77)).drew = wa at *
          generalize wr.heap.size = h0 at *
          generalize hh1 : h0 + 1 = h1 at *
          generalize hh2 : h1 + 1 = h2 at *
          have u0 := O1.cell 0
          simp only [List.getElem?_toArray, List.getElem?_cons_zero] at u0
          have aa0 := Q0.cell 0
          have aa1 := Q0.cell 1
          have aa2 := Q0.cell 2
          simp only [List.getElem?_toArray, List.getElem?_cons_succ, List.getElem?_cons_zero] at aa0 aa1 aa2
          have dd0 := Q1.cell 0
          have dd1 := Q1.cell 1
          have dd2 := Q1.cell 2
          simp only [List.getElem?_toArray, List.getElem?_cons_succ, List.getElem?_cons_zero] at dd0 dd1 dd2
          have bb0 := Q2.cell 0
          have bb1 := Q2.cell 1
          have bb2 := Q2.cell 2
          simp only [List.getElem?_toArray, List.getElem?_cons_succ, List.getElem?_cons_zero] at bb0 bb1 bb2
          have n1 : ¬ g9 = g := by omega
          have n2 : ¬ h0 = g := by omega
          have n3 : ¬ h1 = g := by omega
          have n4 : ¬ h2 = g := by omega
          clear hh1 hh2 Q0 Q1 Q2 aa2 bb2 dd2
          have HO := Lib.hid O1
          have HW := Lib.hid hw2
          have Hb := Lib.hid hb2
          clear O1 hw2 hb2
          go_wp2_with fail
          refine wp_region_still_tail 15 (by kernel_rfl) (by kernel_rfl) ?_
          simp only [List.take_succ_cons, List.take_zero, List.drop_succ_cons, List.drop_zero]
          repeat still_step
          still_call ((Z1.out wa.drew).mono fun _ _ h => ⟨h.1, h.2.symm⟩)
          repeat still_step
          refine wpStill_nil ?_
          change wpList _ _ _ _ _ wa.drew
          replace u0 : wa.drew.cell? ⟨g9, 0, none⟩ = _ := u0
          replace aa1 : wa.drew.cell? ⟨h0, 1, none⟩ = _ := aa1
          replace bb1 : wa.drew.cell? ⟨h2, 1, none⟩ = _ := bb1
          replace dd1 : wa.drew.cell? ⟨h1, 1, none⟩ = _ := dd1
          replace HW : Hid (wa.drew.ownsRow _ _ _ _ _ _) := Lib.hid HW.out.drew
          replace HO : Hid (Blk wa.drew _ _ _) := Lib.hid HO.out.drew
          replace Hb : Hid (Below _ _ wa.drew) := Lib.hid Hb.out.drew
          clear aa0 bb0 dd0 Z1 o1 o2 o3
          generalize wa.drew = wz at *
          obtain ⟨⟨s0, e0⟩, f0⟩ := own_cell HW.out (j := k * 3) (by omega)
          have uu := cell_farB (j := k * 3) (u := .int .i64 px) u0 n1
          have a9 := cell_farB (j := k * 3) (u := .int .i64 px) aa1 n2
          have b9 := cell_farB (j := k * 3) (u := .int .i64 px) bb1 n4
          have d9 := cell_farB (j := k * 3) (u := .int .i64 px) dd1 n3
          have W9 := Lib.hid (HW.out.stored (k * 3) (.int .i64 px)).1
          have O9 := Lib.hid (HO.out.far (p := ⟨g, k * 3, none⟩) n1 (.int .i64 px))
          have B9 := Lib.hid (Hb.out.setCell (p := ⟨g, k * 3, none⟩) hg1 (.int .i64 px))
          clear u0 aa1 bb1 dd1
          go_wp2_with fail
          generalize wz.setCell ⟨g, k * 3, none⟩ (.int .i64 px) = wy at *
          clear e0 f0 HO HW Hb
          refine wp_region_still_tail 15 (by kernel_rfl) (by kernel_rfl) ?_
          simp only [List.take_succ_cons, List.take_zero, List.drop_succ_cons, List.drop_zero]
          repeat still_step
          still_call ((Z2.out wy.drew).mono fun _ _ h => ⟨h.1, h.2.symm⟩)
          repeat still_step
          refine wpStill_nil ?_
          change wpList _ _ _ _ _ wy.drew
          replace W9 : Hid (wy.drew.ownsRow _ _ _ _ _ _) := Lib.hid W9.out.drew
          replace O9 : Hid (Blk wy.drew _ _ _) := Lib.hid O9.out.drew
          replace B9 : Hid (Below _ _ wy.drew) := Lib.hid B9.out.drew
          clear uu a9 b9 d9 Z2 o4 o5 o6
          generalize wy.drew = wx at *
          obtain ⟨⟨s0, e0⟩, f0⟩ := own_cell W9.out (j := k * 3 + 1) (by omega)
          go_wp2_with fail
          refine ⟨⟨k + 1, by omega, by omega, by go_num, B9.out.setCell hg1 _, O9.out.far n1 _, ?_⟩, by simp [intOf]; omega⟩
          exact sm_put2 (p := (px, py, t)) (q := (x, y, t)) (W9.out.stored (k * 3 + 1) (.int .i64 py)).1 hl.out (by omega) hx.out rfl HV2.out
        · have Q0 := ((Blk.new wr 77 #[.int .i64 x, .int .i64 y, .int .i64 t]).alloc (.cells #[.int .i64 x', .int .i64 y', .int .i64 t'] 77)).alloc (.cells #[.int .i64 x2, .int .i64 y2, .int .i64 t2] 77)
          have Q1 := (Blk.new (wr.alloc (.cells #[.int .i64 x, .int .i64 y, .int .i64 t] 77)) 77 #[.int .i64 x', .int .i64 y', .int .i64 t']).alloc (.cells #[.int .i64 x2, .int .i64 y2, .int .i64 t2] 77)
          have Q2 := Blk.new ((wr.alloc (.cells #[.int .i64 x, .int .i64 y, .int .i64 t] 77)).alloc (.cells #[.int .i64 x', .int .i64 y', .int .i64 t'] 77)) 77 #[.int .i64 x2, .int .i64 y2, .int .i64 t2]
          rw [World.size_alloc] at Q1
          rw [World.size_alloc, World.size_alloc] at Q2
          replace Q0 := Q0.drew
          replace Q1 := Q1.drew
          replace Q2 := Q2.drew
          have hbW : Below wr.heap.size wr (((wr.alloc (.cells #[.int .i64 x, .int .i64 y, .int .i64 t] 77)).alloc (.cells #[.int .i64 x', .int .i64 y', .int .i64 t'] 77)).alloc (.cells #[.int .i64 x2, .int .i64 y2, .int .i64 t2] 77)).drew := (by repeat (first | exact Below.refl _ _ | assumption | refine Below.drew ?_ | refine below_drewN ?_ _ | refine Below.alloc ?_ (by first | omega | (simp <;> omega)) _ | refine Below.setCell ?_ (by first | omega | (simp <;> omega)) _))
          have O1 := HO.out.on hbW
          have hw2 := own_below HW.out hbW
          have hb2 := below_on hbW Hb.out
          go_split_ands
          clear hbW q0 q1 q2 p0 p1 p2 r0 r1 r2 e0 hbl zk2 hbr HO HW Hb
          generalize (((wr.alloc (.cells #[.int .i64 x, .int .i64 y, .int .i64 t] 77)).alloc (.cells #[.int .i64 x', .int .i64 y', .int .i64 t'] 77)).alloc (.cells #[.int .i64 x2, .int .i64 y2, .int .i64 t2] 77)).drew = wa at *
          generalize wr.heap.size = h0 at *
          generalize hh1 : h0 + 1 = h1 at *
          generalize hh2 : h1 + 1 = h2 at *
          have u0 := O1.cell 0
          simp only [List.getElem?_toArray, List.getElem?_cons_zero] at u0
          have bb0 := Q0.cell 0
          have bb1 := Q0.cell 1
          have bb2 := Q0.cell 2
          simp only [List.getElem?_toArray, List.getElem?_cons_succ, List.getElem?_cons_zero] at bb0 bb1 bb2
          have aa0 := Q1.cell 0
          have aa1 := Q1.cell 1
          have aa2 := Q1.cell 2
          simp only [List.getElem?_toArray, List.getElem?_cons_succ, List.getElem?_cons_zero] at aa0 aa1 aa2
          have dd0 := Q2.cell 0
          have dd1 := Q2.cell 1
          have dd2 := Q2.cell 2
          simp only [List.getElem?_toArray, List.getElem?_cons_succ, List.getElem?_cons_zero] at dd0 dd1 dd2
          have n1 : ¬ g9 = g := by omega
          have n2 : ¬ h0 = g := by omega
          have n3 : ¬ h1 = g := by omega
          have n4 : ¬ h2 = g := by omega
          clear hh1 hh2 Q0 Q1 Q2 aa2 bb2 dd2
          have HO := Lib.hid O1
          have HW := Lib.hid hw2
          have Hb := Lib.hid hb2
          clear O1 hw2 hb2
          go_wp2_with fail
          refine wp_region_still_tail 15 (by kernel_rfl) (by kernel_rfl) ?_
          simp only [List.take_succ_cons, List.take_zero, List.drop_succ_cons, List.drop_zero]
          repeat still_step
          still_call ((Z1.out wa.drew).mono fun _ _ h => ⟨h.1, h.2.symm⟩)
          repeat still_step
          refine wpStill_nil ?_
          change wpList _ _ _ _ _ wa.drew
          replace u0 : wa.drew.cell? ⟨g9, 0, none⟩ = _ := u0
          replace aa1 : wa.drew.cell? ⟨h1, 1, none⟩ = _ := aa1
          replace bb1 : wa.drew.cell? ⟨h0, 1, none⟩ = _ := bb1
          replace dd1 : wa.drew.cell? ⟨h2, 1, none⟩ = _ := dd1
          replace HW : Hid (wa.drew.ownsRow _ _ _ _ _ _) := Lib.hid HW.out.drew
          replace HO : Hid (Blk wa.drew _ _ _) := Lib.hid HO.out.drew
          replace Hb : Hid (Below _ _ wa.drew) := Lib.hid Hb.out.drew
          clear aa0 bb0 dd0 Z1 o1 o2 o3
          generalize wa.drew = wz at *
          obtain ⟨⟨s0, e0⟩, f0⟩ := own_cell HW.out (j := k * 3) (by omega)
          have uu := cell_farB (j := k * 3) (u := .int .i64 px) u0 n1
          have a9 := cell_farB (j := k * 3) (u := .int .i64 px) aa1 n3
          have b9 := cell_farB (j := k * 3) (u := .int .i64 px) bb1 n2
          have d9 := cell_farB (j := k * 3) (u := .int .i64 px) dd1 n4
          have W9 := Lib.hid (HW.out.stored (k * 3) (.int .i64 px)).1
          have O9 := Lib.hid (HO.out.far (p := ⟨g, k * 3, none⟩) n1 (.int .i64 px))
          have B9 := Lib.hid (Hb.out.setCell (p := ⟨g, k * 3, none⟩) hg1 (.int .i64 px))
          clear u0 aa1 bb1 dd1
          go_wp2_with fail
          generalize wz.setCell ⟨g, k * 3, none⟩ (.int .i64 px) = wy at *
          clear e0 f0 HO HW Hb
          refine wp_region_still_tail 15 (by kernel_rfl) (by kernel_rfl) ?_
          simp only [List.take_succ_cons, List.take_zero, List.drop_succ_cons, List.drop_zero]
          repeat still_step
          still_call ((Z2.out wy.drew).mono fun _ _ h => ⟨h.1, h.2.symm⟩)
          repeat still_step
          refine wpStill_nil ?_
          change wpList _ _ _ _ _ wy.drew
          replace W9 : Hid (wy.drew.ownsRow _ _ _ _ _ _) := Lib.hid W9.out.drew
          replace O9 : Hid (Blk wy.drew _ _ _) := Lib.hid O9.out.drew
          replace B9 : Hid (Below _ _ wy.drew) := Lib.hid B9.out.drew
          clear uu a9 b9 d9 Z2 o4 o5 o6
          generalize wy.drew = wx at *
          obtain ⟨⟨s0, e0⟩, f0⟩ := own_cell W9.out (j := k * 3 + 1) (by omega)
          go_wp2_with fail
          refine ⟨⟨k + 1, by omega, by omega, by go_num, B9.out.setCell hg1 _, O9.out.far n1 _, ?_⟩, by simp [intOf]; omega⟩
          exact sm_put2 (p := (px, py, t)) (q := (x, y, t)) (W9.out.stored (k * 3 + 1) (.int .i64 py)).1 hl.out (by omega) hx.out rfl HV2.out
        · have Q0 := ((Blk.new wr 77 #[.int .i64 x, .int .i64 y, .int .i64 t]).alloc (.cells #[.int .i64 x2, .int .i64 y2, .int .i64 t2] 77)).alloc (.cells #[.int .i64 x', .int .i64 y', .int .i64 t'] 77)
          have Q1 := (Blk.new (wr.alloc (.cells #[.int .i64 x, .int .i64 y, .int .i64 t] 77)) 77 #[.int .i64 x2, .int .i64 y2, .int .i64 t2]).alloc (.cells #[.int .i64 x', .int .i64 y', .int .i64 t'] 77)
          have Q2 := Blk.new ((wr.alloc (.cells #[.int .i64 x, .int .i64 y, .int .i64 t] 77)).alloc (.cells #[.int .i64 x2, .int .i64 y2, .int .i64 t2] 77)) 77 #[.int .i64 x', .int .i64 y', .int .i64 t']
          rw [World.size_alloc] at Q1
          rw [World.size_alloc, World.size_alloc] at Q2
          replace Q0 := Q0.drew
          replace Q1 := Q1.drew
          replace Q2 := Q2.drew
          have hbW : Below wr.heap.size wr (((wr.alloc (.cells #[.int .i64 x, .int .i64 y, .int .i64 t] 77)).alloc (.cells #[.int .i64 x2, .int .i64 y2, .int .i64 t2] 77)).alloc (.cells #[.int .i64 x', .int .i64 y', .int .i64 t'] 77)).drew := (by repeat (first | exact Below.refl _ _ | assumption | refine Below.drew ?_ | refine below_drewN ?_ _ | refine Below.alloc ?_ (by first | omega | (simp <;> omega)) _ | refine Below.setCell ?_ (by first | omega | (simp <;> omega)) _))
          have O1 := HO.out.on hbW
          have hw2 := own_below HW.out hbW
          have hb2 := below_on hbW Hb.out
          go_split_ands
          clear hbW q0 q1 q2 p0 p1 p2 r0 r1 r2 e0 hbl zk2 hbr HO HW Hb
          generalize (((wr.alloc (.cells #[.int .i64 x, .int .i64 y, .int .i64 t] 77)).alloc (.cells #[.int .i64 x2, .int .i64 y2, .int .i64 t2] 77)).alloc (.cells #[.int .i64 x', .int .i64 y', .int .i64 t'] 77)).drew = wa at *
          generalize wr.heap.size = h0 at *
          generalize hh1 : h0 + 1 = h1 at *
          generalize hh2 : h1 + 1 = h2 at *
          have u0 := O1.cell 0
          simp only [List.getElem?_toArray, List.getElem?_cons_zero] at u0
          have bb0 := Q0.cell 0
          have bb1 := Q0.cell 1
          have bb2 := Q0.cell 2
          simp only [List.getElem?_toArray, List.getElem?_cons_succ, List.getElem?_cons_zero] at bb0 bb1 bb2
          have dd0 := Q1.cell 0
          have dd1 := Q1.cell 1
          have dd2 := Q1.cell 2
          simp only [List.getElem?_toArray, List.getElem?_cons_succ, List.getElem?_cons_zero] at dd0 dd1 dd2
          have aa0 := Q2.cell 0
          have aa1 := Q2.cell 1
          have aa2 := Q2.cell 2
          simp only [List.getElem?_toArray, List.getElem?_cons_succ, List.getElem?_cons_zero] at aa0 aa1 aa2
          have n1 : ¬ g9 = g := by omega
          have n2 : ¬ h0 = g := by omega
          have n3 : ¬ h1 = g := by omega
          have n4 : ¬ h2 = g := by omega
          clear hh1 hh2 Q0 Q1 Q2 aa2 bb2 dd2
          have HO := Lib.hid O1
          have HW := Lib.hid hw2
          have Hb := Lib.hid hb2
          clear O1 hw2 hb2
          go_wp2_with fail
          refine wp_region_still_tail 15 (by kernel_rfl) (by kernel_rfl) ?_
          simp only [List.take_succ_cons, List.take_zero, List.drop_succ_cons, List.drop_zero]
          repeat still_step
          still_call ((Z1.out wa.drew).mono fun _ _ h => ⟨h.1, h.2.symm⟩)
          repeat still_step
          refine wpStill_nil ?_
          change wpList _ _ _ _ _ wa.drew
          replace u0 : wa.drew.cell? ⟨g9, 0, none⟩ = _ := u0
          replace aa1 : wa.drew.cell? ⟨h2, 1, none⟩ = _ := aa1
          replace bb1 : wa.drew.cell? ⟨h0, 1, none⟩ = _ := bb1
          replace dd1 : wa.drew.cell? ⟨h1, 1, none⟩ = _ := dd1
          replace HW : Hid (wa.drew.ownsRow _ _ _ _ _ _) := Lib.hid HW.out.drew
          replace HO : Hid (Blk wa.drew _ _ _) := Lib.hid HO.out.drew
          replace Hb : Hid (Below _ _ wa.drew) := Lib.hid Hb.out.drew
          clear aa0 bb0 dd0 Z1 o1 o2 o3
          generalize wa.drew = wz at *
          obtain ⟨⟨s0, e0⟩, f0⟩ := own_cell HW.out (j := k * 3) (by omega)
          have uu := cell_farB (j := k * 3) (u := .int .i64 px) u0 n1
          have a9 := cell_farB (j := k * 3) (u := .int .i64 px) aa1 n4
          have b9 := cell_farB (j := k * 3) (u := .int .i64 px) bb1 n2
          have d9 := cell_farB (j := k * 3) (u := .int .i64 px) dd1 n3
          have W9 := Lib.hid (HW.out.stored (k * 3) (.int .i64 px)).1
          have O9 := Lib.hid (HO.out.far (p := ⟨g, k * 3, none⟩) n1 (.int .i64 px))
          have B9 := Lib.hid (Hb.out.setCell (p := ⟨g, k * 3, none⟩) hg1 (.int .i64 px))
          clear u0 aa1 bb1 dd1
          go_wp2_with fail
          generalize wz.setCell ⟨g, k * 3, none⟩ (.int .i64 px) = wy at *
          clear e0 f0 HO HW Hb
          refine wp_region_still_tail 15 (by kernel_rfl) (by kernel_rfl) ?_
          simp only [List.take_succ_cons, List.take_zero, List.drop_succ_cons, List.drop_zero]
          repeat still_step
          still_call ((Z2.out wy.drew).mono fun _ _ h => ⟨h.1, h.2.symm⟩)
          repeat still_step
          refine wpStill_nil ?_
          change wpList _ _ _ _ _ wy.drew
          replace W9 : Hid (wy.drew.ownsRow _ _ _ _ _ _) := Lib.hid W9.out.drew
          replace O9 : Hid (Blk wy.drew _ _ _) := Lib.hid O9.out.drew
          replace B9 : Hid (Below _ _ wy.drew) := Lib.hid B9.out.drew
          clear uu a9 b9 d9 Z2 o4 o5 o6
          generalize wy.drew = wx at *
          obtain ⟨⟨s0, e0⟩, f0⟩ := own_cell W9.out (j := k * 3 + 1) (by omega)
          go_wp2_with fail
          refine ⟨⟨k + 1, by omega, by omega, by go_num, B9.out.setCell hg1 _, O9.out.far n1 _, ?_⟩, by simp [intOf]; omega⟩
          exact sm_put2 (p := (px, py, t)) (q := (x, y, t)) (W9.out.stored (k * 3 + 1) (.int .i64 py)).1 hl.out (by omega) hx.out rfl HV2.out
        · have Q0 := ((Blk.new wr 77 #[.int .i64 x2, .int .i64 y2, .int .i64 t2]).alloc (.cells #[.int .i64 x', .int .i64 y', .int .i64 t'] 77)).alloc (.cells #[.int .i64 x, .int .i64 y, .int .i64 t] 77)
          have Q1 := (Blk.new (wr.alloc (.cells #[.int .i64 x2, .int .i64 y2, .int .i64 t2] 77)) 77 #[.int .i64 x', .int .i64 y', .int .i64 t']).alloc (.cells #[.int .i64 x, .int .i64 y, .int .i64 t] 77)
          have Q2 := Blk.new ((wr.alloc (.cells #[.int .i64 x2, .int .i64 y2, .int .i64 t2] 77)).alloc (.cells #[.int .i64 x', .int .i64 y', .int .i64 t'] 77)) 77 #[.int .i64 x, .int .i64 y, .int .i64 t]
          rw [World.size_alloc] at Q1
          rw [World.size_alloc, World.size_alloc] at Q2
          replace Q0 := Q0.drew
          replace Q1 := Q1.drew
          replace Q2 := Q2.drew
          have hbW : Below wr.heap.size wr (((wr.alloc (.cells #[.int .i64 x2, .int .i64 y2, .int .i64 t2] 77)).alloc (.cells #[.int .i64 x', .int .i64 y', .int .i64 t'] 77)).alloc (.cells #[.int .i64 x, .int .i64 y, .int .i64 t] 77)).drew := (by repeat (first | exact Below.refl _ _ | assumption | refine Below.drew ?_ | refine below_drewN ?_ _ | refine Below.alloc ?_ (by first | omega | (simp <;> omega)) _ | refine Below.setCell ?_ (by first | omega | (simp <;> omega)) _))
          have O1 := HO.out.on hbW
          have hw2 := own_below HW.out hbW
          have hb2 := below_on hbW Hb.out
          go_split_ands
          clear hbW q0 q1 q2 p0 p1 p2 r0 r1 r2 e0 hbl zk2 hbr HO HW Hb
          generalize (((wr.alloc (.cells #[.int .i64 x2, .int .i64 y2, .int .i64 t2] 77)).alloc (.cells #[.int .i64 x', .int .i64 y', .int .i64 t'] 77)).alloc (.cells #[.int .i64 x, .int .i64 y, .int .i64 t] 77)).drew = wa at *
          generalize wr.heap.size = h0 at *
          generalize hh1 : h0 + 1 = h1 at *
          generalize hh2 : h1 + 1 = h2 at *
          have u0 := O1.cell 0
          simp only [List.getElem?_toArray, List.getElem?_cons_zero] at u0
          have dd0 := Q0.cell 0
          have dd1 := Q0.cell 1
          have dd2 := Q0.cell 2
          simp only [List.getElem?_toArray, List.getElem?_cons_succ, List.getElem?_cons_zero] at dd0 dd1 dd2
          have aa0 := Q1.cell 0
          have aa1 := Q1.cell 1
          have aa2 := Q1.cell 2
          simp only [List.getElem?_toArray, List.getElem?_cons_succ, List.getElem?_cons_zero] at aa0 aa1 aa2
          have bb0 := Q2.cell 0
          have bb1 := Q2.cell 1
          have bb2 := Q2.cell 2
          simp only [List.getElem?_toArray, List.getElem?_cons_succ, List.getElem?_cons_zero] at bb0 bb1 bb2
          have n1 : ¬ g9 = g := by omega
          have n2 : ¬ h0 = g := by omega
          have n3 : ¬ h1 = g := by omega
          have n4 : ¬ h2 = g := by omega
          clear hh1 hh2 Q0 Q1 Q2 aa2 bb2 dd2
          have HO := Lib.hid O1
          have HW := Lib.hid hw2
          have Hb := Lib.hid hb2
          clear O1 hw2 hb2
          go_wp2_with fail
          refine wp_region_still_tail 15 (by kernel_rfl) (by kernel_rfl) ?_
          simp only [List.take_succ_cons, List.take_zero, List.drop_succ_cons, List.drop_zero]
          repeat still_step
          still_call ((Z1.out wa.drew).mono fun _ _ h => ⟨h.1, h.2.symm⟩)
          repeat still_step
          refine wpStill_nil ?_
          change wpList _ _ _ _ _ wa.drew
          replace u0 : wa.drew.cell? ⟨g9, 0, none⟩ = _ := u0
          replace aa1 : wa.drew.cell? ⟨h1, 1, none⟩ = _ := aa1
          replace bb1 : wa.drew.cell? ⟨h2, 1, none⟩ = _ := bb1
          replace dd1 : wa.drew.cell? ⟨h0, 1, none⟩ = _ := dd1
          replace HW : Hid (wa.drew.ownsRow _ _ _ _ _ _) := Lib.hid HW.out.drew
          replace HO : Hid (Blk wa.drew _ _ _) := Lib.hid HO.out.drew
          replace Hb : Hid (Below _ _ wa.drew) := Lib.hid Hb.out.drew
          clear aa0 bb0 dd0 Z1 o1 o2 o3
          generalize wa.drew = wz at *
          obtain ⟨⟨s0, e0⟩, f0⟩ := own_cell HW.out (j := k * 3) (by omega)
          have uu := cell_farB (j := k * 3) (u := .int .i64 px) u0 n1
          have a9 := cell_farB (j := k * 3) (u := .int .i64 px) aa1 n3
          have b9 := cell_farB (j := k * 3) (u := .int .i64 px) bb1 n4
          have d9 := cell_farB (j := k * 3) (u := .int .i64 px) dd1 n2
          have W9 := Lib.hid (HW.out.stored (k * 3) (.int .i64 px)).1
          have O9 := Lib.hid (HO.out.far (p := ⟨g, k * 3, none⟩) n1 (.int .i64 px))
          have B9 := Lib.hid (Hb.out.setCell (p := ⟨g, k * 3, none⟩) hg1 (.int .i64 px))
          clear u0 aa1 bb1 dd1
          go_wp2_with fail
          generalize wz.setCell ⟨g, k * 3, none⟩ (.int .i64 px) = wy at *
          clear e0 f0 HO HW Hb
          refine wp_region_still_tail 15 (by kernel_rfl) (by kernel_rfl) ?_
          simp only [List.take_succ_cons, List.take_zero, List.drop_succ_cons, List.drop_zero]
          repeat still_step
          still_call ((Z2.out wy.drew).mono fun _ _ h => ⟨h.1, h.2.symm⟩)
          repeat still_step
          refine wpStill_nil ?_
          change wpList _ _ _ _ _ wy.drew
          replace W9 : Hid (wy.drew.ownsRow _ _ _ _ _ _) := Lib.hid W9.out.drew
          replace O9 : Hid (Blk wy.drew _ _ _) := Lib.hid O9.out.drew
          replace B9 : Hid (Below _ _ wy.drew) := Lib.hid B9.out.drew
          clear uu a9 b9 d9 Z2 o4 o5 o6
          generalize wy.drew = wx at *
          obtain ⟨⟨s0, e0⟩, f0⟩ := own_cell W9.out (j := k * 3 + 1) (by omega)
          go_wp2_with fail
          refine ⟨⟨k + 1, by omega, by omega, by go_num, B9.out.setCell hg1 _, O9.out.far n1 _, ?_⟩, by simp [intOf]; omega⟩
          exact sm_put2 (p := (px, py, t)) (q := (x, y, t)) (W9.out.stored (k * 3 + 1) (.int .i64 py)).1 hl.out (by omega) hx.out rfl HV2.out
        · have Q0 := ((Blk.new wr 77 #[.int .i64 x2, .int .i64 y2, .int .i64 t2]).alloc (.cells #[.int .i64 x, .int .i64 y, .int .i64 t] 77)).alloc (.cells #[.int .i64 x', .int .i64 y', .int .i64 t'] 77)
          have Q1 := (Blk.new (wr.alloc (.cells #[.int .i64 x2, .int .i64 y2, .int .i64 t2] 77)) 77 #[.int .i64 x, .int .i64 y, .int .i64 t]).alloc (.cells #[.int .i64 x', .int .i64 y', .int .i64 t'] 77)
          have Q2 := Blk.new ((wr.alloc (.cells #[.int .i64 x2, .int .i64 y2, .int .i64 t2] 77)).alloc (.cells #[.int .i64 x, .int .i64 y, .int .i64 t] 77)) 77 #[.int .i64 x', .int .i64 y', .int .i64 t']
          rw [World.size_alloc] at Q1
          rw [World.size_alloc, World.size_alloc] at Q2
          replace Q0 := Q0.drew
          replace Q1 := Q1.drew
          replace Q2 := Q2.drew
          have hbW : Below wr.heap.size wr (((wr.alloc (.cells #[.int .i64 x2, .int .i64 y2, .int .i64 t2] 77)).alloc (.cells #[.int .i64 x, .int .i64 y, .int .i64 t] 77)).alloc (.cells #[.int .i64 x', .int .i64 y', .int .i64 t'] 77)).drew := (by repeat (first | exact Below.refl _ _ | assumption | refine Below.drew ?_ | refine below_drewN ?_ _ | refine Below.alloc ?_ (by first | omega | (simp <;> omega)) _ | refine Below.setCell ?_ (by first | omega | (simp <;> omega)) _))
          have O1 := HO.out.on hbW
          have hw2 := own_below HW.out hbW
          have hb2 := below_on hbW Hb.out
          go_split_ands
          clear hbW q0 q1 q2 p0 p1 p2 r0 r1 r2 e0 hbl zk2 hbr HO HW Hb
          generalize (((wr.alloc (.cells #[.int .i64 x2, .int .i64 y2, .int .i64 t2] 77)).alloc (.cells #[.int .i64 x, .int .i64 y, .int .i64 t] 77)).alloc (.cells #[.int .i64 x', .int .i64 y', .int .i64 t'] 77)).drew = wa at *
          generalize wr.heap.size = h0 at *
          generalize hh1 : h0 + 1 = h1 at *
          generalize hh2 : h1 + 1 = h2 at *
          have u0 := O1.cell 0
          simp only [List.getElem?_toArray, List.getElem?_cons_zero] at u0
          have dd0 := Q0.cell 0
          have dd1 := Q0.cell 1
          have dd2 := Q0.cell 2
          simp only [List.getElem?_toArray, List.getElem?_cons_succ, List.getElem?_cons_zero] at dd0 dd1 dd2
          have bb0 := Q1.cell 0
          have bb1 := Q1.cell 1
          have bb2 := Q1.cell 2
          simp only [List.getElem?_toArray, List.getElem?_cons_succ, List.getElem?_cons_zero] at bb0 bb1 bb2
          have aa0 := Q2.cell 0
          have aa1 := Q2.cell 1
          have aa2 := Q2.cell 2
          simp only [List.getElem?_toArray, List.getElem?_cons_succ, List.getElem?_cons_zero] at aa0 aa1 aa2
          have n1 : ¬ g9 = g := by omega
          have n2 : ¬ h0 = g := by omega
          have n3 : ¬ h1 = g := by omega
          have n4 : ¬ h2 = g := by omega
          clear hh1 hh2 Q0 Q1 Q2 aa2 bb2 dd2
          have HO := Lib.hid O1
          have HW := Lib.hid hw2
          have Hb := Lib.hid hb2
          clear O1 hw2 hb2
          go_wp2_with fail
          refine wp_region_still_tail 15 (by kernel_rfl) (by kernel_rfl) ?_
          simp only [List.take_succ_cons, List.take_zero, List.drop_succ_cons, List.drop_zero]
          repeat still_step
          still_call ((Z1.out wa.drew).mono fun _ _ h => ⟨h.1, h.2.symm⟩)
          repeat still_step
          refine wpStill_nil ?_
          change wpList _ _ _ _ _ wa.drew
          replace u0 : wa.drew.cell? ⟨g9, 0, none⟩ = _ := u0
          replace aa1 : wa.drew.cell? ⟨h2, 1, none⟩ = _ := aa1
          replace bb1 : wa.drew.cell? ⟨h1, 1, none⟩ = _ := bb1
          replace dd1 : wa.drew.cell? ⟨h0, 1, none⟩ = _ := dd1
          replace HW : Hid (wa.drew.ownsRow _ _ _ _ _ _) := Lib.hid HW.out.drew
          replace HO : Hid (Blk wa.drew _ _ _) := Lib.hid HO.out.drew
          replace Hb : Hid (Below _ _ wa.drew) := Lib.hid Hb.out.drew
          clear aa0 bb0 dd0 Z1 o1 o2 o3
          generalize wa.drew = wz at *
          obtain ⟨⟨s0, e0⟩, f0⟩ := own_cell HW.out (j := k * 3) (by omega)
          have uu := cell_farB (j := k * 3) (u := .int .i64 px) u0 n1
          have a9 := cell_farB (j := k * 3) (u := .int .i64 px) aa1 n4
          have b9 := cell_farB (j := k * 3) (u := .int .i64 px) bb1 n3
          have d9 := cell_farB (j := k * 3) (u := .int .i64 px) dd1 n2
          have W9 := Lib.hid (HW.out.stored (k * 3) (.int .i64 px)).1
          have O9 := Lib.hid (HO.out.far (p := ⟨g, k * 3, none⟩) n1 (.int .i64 px))
          have B9 := Lib.hid (Hb.out.setCell (p := ⟨g, k * 3, none⟩) hg1 (.int .i64 px))
          clear u0 aa1 bb1 dd1
          go_wp2_with fail
          generalize wz.setCell ⟨g, k * 3, none⟩ (.int .i64 px) = wy at *
          clear e0 f0 HO HW Hb
          refine wp_region_still_tail 15 (by kernel_rfl) (by kernel_rfl) ?_
          simp only [List.take_succ_cons, List.take_zero, List.drop_succ_cons, List.drop_zero]
          repeat still_step
          still_call ((Z2.out wy.drew).mono fun _ _ h => ⟨h.1, h.2.symm⟩)
          repeat still_step
          refine wpStill_nil ?_
          change wpList _ _ _ _ _ wy.drew
          replace W9 : Hid (wy.drew.ownsRow _ _ _ _ _ _) := Lib.hid W9.out.drew
          replace O9 : Hid (Blk wy.drew _ _ _) := Lib.hid O9.out.drew
          replace B9 : Hid (Below _ _ wy.drew) := Lib.hid B9.out.drew
          clear uu a9 b9 d9 Z2 o4 o5 o6
          generalize wy.drew = wx at *
          obtain ⟨⟨s0, e0⟩, f0⟩ := own_cell W9.out (j := k * 3 + 1) (by omega)
          go_wp2_with fail
          refine ⟨⟨k + 1, by omega, by omega, by go_num, B9.out.setCell hg1 _, O9.out.far n1 _, ?_⟩, by simp [intOf]; omega⟩
          exact sm_put2 (p := (px, py, t)) (q := (x, y, t)) (W9.out.stored (k * 3 + 1) (.int .i64 py)).1 hl.out (by omega) hx.out rfl HV2.out
      · have HE := Lib.hid (sm_end hl.out (k := k) (by omega))
        replace R0 := R0.on hb
        have j0 := R0.cell 0
        simp only [List.getElem?_toArray, List.getElem?_cons_zero] at j0
        have f0 := R0.frozen 0
        have u0 := O0.cell 0
        simp only [List.getElem?_toArray, List.getElem?_cons_zero] at u0
        clear K1
        have hnn : ¬ (k : Int) + 1 < (n : Int) := by omega
        have zr2 := R0.lt
        have HW := Lib.hid hw
        clear hw
        go_wp2
        rw [show okE (strokeB xs) = 0 by unfold okE; rw [if_pos Hok.out], show okL (strokeB xs) (smF xs) = smF xs by unfold okL; rw [if_pos Hok.out]]
        refine bodyPost_ret (v := .tuple #[.agg #[.slice (some ⟨g, 0, none⟩) n c'], .int .i64 0]) (by simp [results, Try.results17, go_sem, j0]) rfl ⟨some ⟨g, 0, none⟩, n, c', rfl, ?_, ?_, hn, (by repeat (first | exact Below.refl _ _ | assumption | refine Below.drew ?_ | refine below_drewN ?_ _ | refine Below.alloc ?_ (by first | omega | (simp <;> omega)) _ | refine Below.setCell ?_ (by first | omega | (simp <;> omega)) _))⟩
        · have h9 := HW.out
          rw [HE.out] at h9
          exact own_mono (own_far h9 (fun q hq => by cases hq; simp only; omega) _) hB.size
        · show (smN xs xs.length).length = n; rw [smN_len, hl.out]
end Go.Proofs.Ytpmaiklooapnfaa
