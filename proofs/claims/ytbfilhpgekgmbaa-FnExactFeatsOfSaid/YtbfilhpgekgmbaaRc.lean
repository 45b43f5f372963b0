/- Contracts of the lengths of a stroke up to its points; ArcsOf. -/
import Derived.Test.YtbfilhpgekgmbaaRr
import Derived.Test.YtbfilhpgekgmbaaPk
import Derived.Test.YtbfilhpgekgmbaaFlInt
import Derived.Deep.RegionHeld3
namespace Go.Proofs.Ytbfilhpgekgmbaa
open Go.ChangeShapes Go.WideShapes Go.ChangeAt Go.RowKit
def arcAt (xs : List T3) : Nat → Int
  | 0 => 0
  | k + 1 => arcAt xs k + lenD (xs.getD k (0, 0, 0)) (xs.getD (k + 1) (0, 0, 0))
def arcsN (xs : List T3) (k : Nat) : List Int := (List.range k).map (arcAt xs)
theorem arcsN_len (xs : List T3) (k : Nat) : (arcsN xs k).length = k := by simp [arcsN]
theorem arcsN_step (xs : List T3) (k : Nat) : arcsN xs (k + 1) = arcsN xs k ++ [arcAt xs k] := by simp [arcsN, List.range_succ]
theorem arcsN_at (xs : List T3) {k j : Nat} (h : j < k) : (arcsN xs k)[j]? = some (arcAt xs j) := by simp [arcsN, h]
theorem arcAt_step {xs : List T3} {k : Nat} {p q : T3} (hk : 0 < k) (hp : xs[k - 1]? = some p) (hq : xs[k]? = some q) : arcAt xs k = arcAt xs (k - 1) + lenD p q := by
  obtain ⟨j, rfl⟩ : ∃ j, k = j + 1 := ⟨k - 1, by omega⟩
  rw [Nat.add_sub_cancel] at hp ⊢
  show arcAt xs j + lenD (xs.getD j (0, 0, 0)) (xs.getD (j + 1) (0, 0, 0)) = _
  rw [getD_of hp, getD_of hq]
theorem arcAt_bd {xs : List T3} (h : strokeB xs = true) : ∀ k, k < xs.length → 0 ≤ arcAt xs k ∧ arcAt xs k ≤ 92660 * k
  | 0, _ => ⟨Int.le_refl _, by simp [arcAt]⟩
  | k + 1, hk => by
    obtain ⟨i1, i2⟩ := arcAt_bd h k (by omega)
    have hp : xs[k]? = some (xs[k]'(by omega)) := List.getElem?_eq_getElem (by omega)
    have hq : xs[k + 1]? = some (xs[k + 1]'hk) := List.getElem?_eq_getElem hk
    rw [arcAt_step (k := k + 1) (by omega) hp hq, Nat.add_sub_cancel]
    have v1 := strokeB_at h hp
    have v2 := strokeB_at h hq
    generalize xs[k]'(by omega) = p at *
    generalize xs[k + 1]'hk = q at *
    obtain ⟨x, y, t⟩ := p
    obtain ⟨x', y', t'⟩ := q
    obtain ⟨⟨a0, a1⟩, ⟨b0, b1⟩, _, _⟩ := ptOk_iff.1 v1
    obtain ⟨⟨c0, c1⟩, ⟨d0, d1⟩, _, _⟩ := ptOk_iff.1 v2
    obtain ⟨l0, l1⟩ := lenD_bd (t := t) (t' := t') a0 a1 b0 b1 c0 c1 d0 d1
    have e : ((k + 1 : Nat) : Int) = (k : Int) + 1 := by omega
    rw [e]
    omega
set_option maxRecDepth 100000 in
set_option maxHeartbeats 8000000 in
theorem arcsOf_any (A : Option Addr) (n c : Nat) (xs : List T3) (w : World) (hr : RdL c3 3 w w.heap.size A n c xs) (hok : strokeB xs = true) :
    Calls Try.prog 86 #[.agg #[.slice A n c]] w fun e w' => ∃ A' c', e = .returned (.slice A' n c') ∧ w'.ownsRow w.heap.size 2 1 (.slice A' n c') n ((arcsN xs n).flatMap c1) ∧ Below w.heap.size w w' := by
  obtain ⟨i0, hi, hz0, hz1, hz2⟩ := info_parts Try.infoInt64
  have hl := Lib.hid hr.len
  have hle := strokeB_len hok
  rw [hr.len] at hle
  have Hok := Lib.hid hok
  clear hok
  have K0 : Blk ((w.alloc (.cells #[.slice A n c] 52)).alloc (.cells #[.int .i64 0] 2)) w.heap.size 52 #[.slice A n c] := (Blk.new _ _ _).alloc _
  have hB : Below w.heap.size w ((w.alloc (.cells #[.slice A n c] 52)).alloc (.cells #[.int .i64 0] 2)) := (by repeat (first | exact Below.refl _ _ | assumption | refine Below.drew ?_ | refine below_drewN ?_ _ | refine Below.alloc ?_ (by first | omega | (simp <;> omega)) _ | refine Below.setCell ?_ (by first | omega | (simp <;> omega)) _))
  have ho : ((w.alloc (.cells #[.slice A n c] 52)).alloc (.cells #[.int .i64 0] 2)).ownsRow (w.heap.size + 1) 2 1 (.slice (some ⟨w.heap.size + 1, 0, none⟩) 1 1) 1 ((arcsN xs 1).flatMap c1) := by
    have h := World.ownsRow_lit (base := w.heap.size + 1) (e := 2) (size := 1) (w.alloc (.cells #[.slice A n c] 52)) #[.int .i64 0] 1 (by simp) (by simp [maxLen]) rfl
    simpa [arcsN, arcAt, c1] using h
  go_enter Try.func86, Try.ntmps86
  go_wp2
  generalize (w.alloc (.cells #[.slice A n c] 52)).alloc (.cells #[.int .i64 0] 2) = w1 at *
  have hr0 := hr
  replace hr := hr.on hB
  have hg1 : w.heap.size < w.heap.size + 1 := by omega
  go_loopw [3, 4] (fun v i wr => ∃ (k c' : Nat) (A' : Option Addr), 1 ≤ k ∧ k ≤ n ∧ i = .int .i64 k ∧ v = .slice A' k c' ∧ Below (w.heap.size + 1) w1 wr ∧ (w.heap.size + 1) ≤ wr.heap.size ∧ wr.ownsRow (w.heap.size + 1) 2 1 (.slice A' k c') k ((arcsN xs k).flatMap c1)) (fun _ i _ => n - (intOf i).toNat)
  case atStart => exact ⟨1, 1, _, by omega, by omega, rfl, rfl, Below.refl _ _, by have := K0.lt; omega, ho⟩
  case round =>
    clear ho
    obtain ⟨k, c', A', hk1, hk, rfl, rfl, hb, hbs, hw⟩ := hrel
    have K1 : Blk wr w.heap.size 52 #[.slice A n c] := (hb.block w.heap.size (by omega)).trans K0
    have hbr : Below w.heap.size w wr := hB.trans (hb.mono (by omega))
    have e0 := K1.cell 0
    simp only [List.getElem?_toArray, List.getElem?_cons_zero] at e0
    have zk := K1.lt
    by_cases hlt : k < n
    · obtain ⟨b, off, x, y, t, rfl, hbl, hx, q0, q1, q2⟩ := (hr0.below hbr).at3 hlt
      obtain ⟨b', off', x', y', t', he, _, hx', p0, p1, p2⟩ := (hr0.below hbr).at3 (show k - 1 < n by omega)
      cases he
      obtain ⟨g, rfl, hg2, hg3⟩ := own_at hw (by omega)
      obtain ⟨a, ha⟩ : ∃ a, Hid (arcAt xs (k - 1) = a) := ⟨_, rfl⟩
      have ac : wr.cell? ⟨g, k - 1, none⟩ = some (.int .i64 a) := by
        rw [hw.cellAt (k - 1) (by omega)]
        have h9 := flat_get c1_len (arcsN xs k) (k - 1) 0 _ (arcsN_at xs (show k - 1 < k by omega)) (by omega)
        rw [show (k - 1) * 1 + 0 = k - 1 by omega, ha.out] at h9
        rw [h9]; rfl
      have V1 : ptOk (x', y', t') = true := strokeB_at Hok.out hx'.out
      have V2 : ptOk (x, y, t) = true := strokeB_at Hok.out hx.out
      obtain ⟨⟨u0, u1⟩, ⟨u2, u3⟩, _, _⟩ := ptOk_iff.1 V1
      obtain ⟨⟨v0, v1⟩, ⟨v2, v3⟩, _, _⟩ := ptOk_iff.1 V2
      obtain ⟨l0, l1⟩ := lenD_bd (t := t') (t' := t) u0 u1 u2 u3 v0 v1 v2 v3
      obtain ⟨a0, a1⟩ := arcAt_bd Hok.out (k - 1) (by have := hl.out; omega)
      rw [ha.out] at a0 a1
      have HV : Hid (arcAt xs k = a + lenD (x', y', t') (x, y, t)) := by unfold Hid; rw [arcAt_step hk1 hx'.out hx.out, ha.out]
      have V1 := Lib.hid V1
      have V2 := Lib.hid V2
      obtain ⟨ld, hld⟩ : ∃ ld, Hid (lenD (x', y', t') (x, y, t) = ld) := ⟨_, rfl⟩
      rw [hld.out] at l0 l1 HV
      have a2 : a ≤ 10000000 := by omega
      have i1 : (k : Int) < (n : Int) := by omega
      have i2 : (0 : Int) ≤ (k : Int) := by omega
      have i3 : (1 : Int) ≤ (k : Int) := by omega
      have o1 : IntKind.i64.wrap ((k : Int) - 1) = (k : Int) - 1 := IntWalk.i64_in _ (by omega)
      have o2 : (0 : Int) ≤ (k : Int) - 1 := by omega
      have o3 : (k : Int) - 1 < (n : Int) := by omega
      have o5 : (k : Int) - 1 < (k : Int) := by omega
      have o4 : ((k : Int) - 1).toNat = k - 1 := by omega
      have o6 : IntKind.i64.wrap (a + ld) = a + ld := IntWalk.i64_in _ (by omega)
      have n1 : b ≠ g := by omega
      have n2 : w.heap.size ≠ g := by omega
      have hkm : k ≤ 1048576 := by omega
      have hk3 : k - 1 < k * 1 := by omega
      have zc := lengthOf_any x' y' t' x y t
      have ZC := Lib.hid zc
      clear zc
      have HW := Lib.hid hw
      have HBS : (w.heap.size + 1) ≤ wr.heap.size := hbs
      clear hr hr0 hw K1 u0 u1 u2 u3 v0 v1 v2 v3 a1 hle
      go_wp2
      go_region_held3 (fun w' => w'.cell? ⟨g, k - 1, none⟩ = some (.int .i64 a) ∧ w'.cell? ⟨w.heap.size, 0, none⟩ = some (.slice (some ⟨b, off, none⟩) n c) ∧ w'.cell? ⟨b, off + (k - 1) * 3, none⟩ = some (.int .i64 x') ∧ w'.cell? ⟨b, off + (k - 1) * 3 + 1, none⟩ = some (.int .i64 y') ∧ w'.cell? ⟨b, off + (k - 1) * 3 + 2, none⟩ = some (.int .i64 t') ∧ w'.cell? ⟨b, off + k * 3, none⟩ = some (.int .i64 x) ∧ w'.cell? ⟨b, off + k * 3 + 1, none⟩ = some (.int .i64 y) ∧ w'.cell? ⟨b, off + k * 3 + 2, none⟩ = some (.int .i64 t))
        (first | exact ⟨ac, e0, p0, p1, p2, q0, q1, q2⟩ | (go_split_ands; exact ⟨cell_on2 hbw2 ‹_›, cell_on2 hbw2 ‹_›, cell_on2 hbw2 ‹_›, cell_on2 hbw2 ‹_›, cell_on2 hbw2 ‹_›, cell_on2 hbw2 ‹_›, cell_on2 hbw2 ‹_›, cell_on2 hbw2 ‹_›⟩) | (go_split_ands; exact ⟨hst _ _ _ ‹_› (.inr hk3), hst _ _ _ ‹_› (.inl (fun ad h => by cases h; exact n2)), hst _ _ _ ‹_› (.inl (fun ad h => by cases h; exact n1)), hst _ _ _ ‹_› (.inl (fun ad h => by cases h; exact n1)), hst _ _ _ ‹_› (.inl (fun ad h => by cases h; exact n1)), hst _ _ _ ‹_› (.inl (fun ad h => by cases h; exact n1)), hst _ _ _ ‹_› (.inl (fun ad h => by cases h; exact n1)), hst _ _ _ ‹_› (.inl (fun ad h => by cases h; exact n1))⟩) | go_keep)
        (first | ((refine step_keep _ c1_len one1 (by rfl) (.tmp 13) (.tmp 32) 73 (by rfl) (w.heap.size + 1) 2 i0 _ Try.underlying73 hi hz0 hz1 hz2 rfl (by decide) (by decide) _ k c' _ (by rfl) ((own_below (own_below HW.out ((Below.refl _ _).drew)) hbw2).alloc _) w2.heap.size 1 (a + ld) (by rfl) (news1 (by go_simp)) hkm (by have := hbw2.size; simp at this ⊢; omega) ?_; intro A2 c2' w3 hw3 hb3 hst)) | (go_at_call 95; with_reducible refine (ZC.out _ V1.out V2.out).mono ?_; rw [hld.out]; rintro e w2 ⟨rfl, hbw2⟩))
      go_split_ands
      clear o1 o4 o6
      have hb4 : Below (w.heap.size + 1) w1 w3 := ((hb.drew.trans (hbw2.mono (by simpa using HBS))).alloc (by have := hbw2.size; simp at this; omega) _).trans hb3
      have hs4 := hb3.size
      go_wp2
      refine ⟨⟨k + 1, c2', A2, by omega, by omega, by go_num, rfl, hb4, by have := hbw2.size; simp at this hs4; omega, ?_⟩, by simp [intOf]; omega⟩
      rw [arcsN_step, HV.out]; exact hw3
    · have hkn : k = n := by omega
      subst hkn
      clear hr hr0 K1
      have HW := Lib.hid hw
      clear hw
      go_wp2
      go_ret
      exact ⟨A', c', rfl, own_mono HW.out (by omega), hbr⟩
set_option maxRecDepth 100000 in
set_option maxHeartbeats 8000000 in
theorem l06Arcs_ptr (A : Option Addr) (n c : Nat) (xs : List T3) (w : World) (g0 oo : Nat) (K0 : Cel w g0 oo (.slice A n c)) (hr : RdL c3 3 w w.heap.size A n c xs) (hok : strokeB xs = true) :
    Calls Try.prog 92 #[.pointer (some ⟨g0, oo, none⟩)] w fun e w' => ∃ A' c', e = .returned (.slice A' n c') ∧ w'.ownsRow w.heap.size 2 1 (.slice A' n c') n ((arcsN xs n).flatMap c1) ∧ Below w.heap.size w w' := by
  obtain ⟨i0, hi, hz0, hz1, hz2⟩ := info_parts Try.infoInt64
  have hl := Lib.hid hr.len
  have hle := strokeB_len hok
  rw [hr.len] at hle
  have Hok := Lib.hid hok
  clear hok
  have zg := K0.lt
  replace K0 := K0.on (show Below w.heap.size w (w.alloc (.cells #[.int .i64 0] 2)) from (by repeat (first | exact Below.refl _ _ | assumption | refine Below.drew ?_ | refine below_drewN ?_ _ | refine Below.alloc ?_ (by first | omega | (simp <;> omega)) _ | refine Below.setCell ?_ (by first | omega | (simp <;> omega)) _)))
  have hB : Below w.heap.size w (w.alloc (.cells #[.int .i64 0] 2)) := (by repeat (first | exact Below.refl _ _ | assumption | refine Below.drew ?_ | refine below_drewN ?_ _ | refine Below.alloc ?_ (by first | omega | (simp <;> omega)) _ | refine Below.setCell ?_ (by first | omega | (simp <;> omega)) _))
  have ho : (w.alloc (.cells #[.int .i64 0] 2)).ownsRow w.heap.size 2 1 (.slice (some ⟨w.heap.size, 0, none⟩) 1 1) 1 ((arcsN xs 1).flatMap c1) := by
    have h := World.ownsRow_lit (base := w.heap.size) (e := 2) (size := 1) w #[.int .i64 0] 1 (by simp) (by simp [maxLen]) rfl
    simpa [arcsN, arcAt, c1] using h
  go_enter Try.func92, Try.ntmps92
  go_wp2
  generalize w.alloc (.cells #[.int .i64 0] 2) = w1 at *
  have hr0 := hr
  replace hr := hr.on hB
  have hg1 : g0 < w.heap.size := zg
  go_loopw [3, 4] (fun v i wr => ∃ (k c' : Nat) (A' : Option Addr), 1 ≤ k ∧ k ≤ n ∧ i = .int .i64 k ∧ v = .slice A' k c' ∧ Below w.heap.size w1 wr ∧ w.heap.size ≤ wr.heap.size ∧ wr.ownsRow w.heap.size 2 1 (.slice A' k c') k ((arcsN xs k).flatMap c1)) (fun _ i _ => n - (intOf i).toNat)
  case atStart => exact ⟨1, 1, _, by omega, by omega, rfl, rfl, Below.refl _ _, by have := K0.lt; have := hB.size; omega, ho⟩
  case round =>
    clear ho
    obtain ⟨k, c', A', hk1, hk, rfl, rfl, hb, hbs, hw⟩ := hrel
    have K1 : Cel wr g0 oo (.slice A n c) := ⟨by omega, (hb.cell (p := ⟨g0, oo, none⟩) hg1).trans K0.cell⟩
    have hbr : Below w.heap.size w wr := hB.trans (hb.mono (by omega))
    have e0 := K1.cell
    have zk := K1.lt
    by_cases hlt : k < n
    · obtain ⟨b, off, x, y, t, rfl, hbl, hx, q0, q1, q2⟩ := (hr0.below hbr).at3 hlt
      obtain ⟨b', off', x', y', t', he, _, hx', p0, p1, p2⟩ := (hr0.below hbr).at3 (show k - 1 < n by omega)
      cases he
      obtain ⟨g, rfl, hg2, hg3⟩ := own_at hw (by omega)
      obtain ⟨a, ha⟩ : ∃ a, Hid (arcAt xs (k - 1) = a) := ⟨_, rfl⟩
      have ac : wr.cell? ⟨g, k - 1, none⟩ = some (.int .i64 a) := by
        rw [hw.cellAt (k - 1) (by omega)]
        have h9 := flat_get c1_len (arcsN xs k) (k - 1) 0 _ (arcsN_at xs (show k - 1 < k by omega)) (by omega)
        rw [show (k - 1) * 1 + 0 = k - 1 by omega, ha.out] at h9
        rw [h9]; rfl
      have V1 : ptOk (x', y', t') = true := strokeB_at Hok.out hx'.out
      have V2 : ptOk (x, y, t) = true := strokeB_at Hok.out hx.out
      obtain ⟨⟨u0, u1⟩, ⟨u2, u3⟩, _, _⟩ := ptOk_iff.1 V1
      obtain ⟨⟨v0, v1⟩, ⟨v2, v3⟩, _, _⟩ := ptOk_iff.1 V2
      obtain ⟨l0, l1⟩ := lenD_bd (t := t') (t' := t) u0 u1 u2 u3 v0 v1 v2 v3
      obtain ⟨a0, a1⟩ := arcAt_bd Hok.out (k - 1) (by have := hl.out; omega)
      rw [ha.out] at a0 a1
      have HV : Hid (arcAt xs k = a + lenD (x', y', t') (x, y, t)) := by unfold Hid; rw [arcAt_step hk1 hx'.out hx.out, ha.out]
      have V1 := Lib.hid V1
      have V2 := Lib.hid V2
      obtain ⟨ld, hld⟩ : ∃ ld, Hid (lenD (x', y', t') (x, y, t) = ld) := ⟨_, rfl⟩
      rw [hld.out] at l0 l1 HV
      have a2 : a ≤ 10000000 := by omega
      have i1 : (k : Int) < (n : Int) := by omega
      have i2 : (0 : Int) ≤ (k : Int) := by omega
      have i3 : (1 : Int) ≤ (k : Int) := by omega
      have o1 : IntKind.i64.wrap ((k : Int) - 1) = (k : Int) - 1 := IntWalk.i64_in _ (by omega)
      have o2 : (0 : Int) ≤ (k : Int) - 1 := by omega
      have o3 : (k : Int) - 1 < (n : Int) := by omega
      have o5 : (k : Int) - 1 < (k : Int) := by omega
      have o4 : ((k : Int) - 1).toNat = k - 1 := by omega
      have o6 : IntKind.i64.wrap (a + ld) = a + ld := IntWalk.i64_in _ (by omega)
      have n1 : b ≠ g := by omega
      have n2 : g0 ≠ g := by omega
      have hkm : k ≤ 1048576 := by omega
      have hk3 : k - 1 < k * 1 := by omega
      have zc := l05Length_any x' y' t' x y t
      have ZC := Lib.hid zc
      clear zc
      have HW := Lib.hid hw
      have HBS : w.heap.size ≤ wr.heap.size := hbs
      clear hr hr0 hw K1 u0 u1 u2 u3 v0 v1 v2 v3 a1 hle
      go_wp2
      go_region_held3 (fun w' => w'.cell? ⟨g, k - 1, none⟩ = some (.int .i64 a) ∧ w'.cell? ⟨g0, oo, none⟩ = some (.slice (some ⟨b, off, none⟩) n c) ∧ w'.cell? ⟨b, off + (k - 1) * 3, none⟩ = some (.int .i64 x') ∧ w'.cell? ⟨b, off + (k - 1) * 3 + 1, none⟩ = some (.int .i64 y') ∧ w'.cell? ⟨b, off + (k - 1) * 3 + 2, none⟩ = some (.int .i64 t') ∧ w'.cell? ⟨b, off + k * 3, none⟩ = some (.int .i64 x) ∧ w'.cell? ⟨b, off + k * 3 + 1, none⟩ = some (.int .i64 y) ∧ w'.cell? ⟨b, off + k * 3 + 2, none⟩ = some (.int .i64 t))
        (first | exact ⟨ac, e0, p0, p1, p2, q0, q1, q2⟩ | (go_split_ands; exact ⟨cell_on2 hbw2 ‹_›, cell_on2 hbw2 ‹_›, cell_on2 hbw2 ‹_›, cell_on2 hbw2 ‹_›, cell_on2 hbw2 ‹_›, cell_on2 hbw2 ‹_›, cell_on2 hbw2 ‹_›, cell_on2 hbw2 ‹_›⟩) | (go_split_ands; exact ⟨hst _ _ _ ‹_› (.inr hk3), hst _ _ _ ‹_› (.inl (fun ad h => by cases h; exact n2)), hst _ _ _ ‹_› (.inl (fun ad h => by cases h; exact n1)), hst _ _ _ ‹_› (.inl (fun ad h => by cases h; exact n1)), hst _ _ _ ‹_› (.inl (fun ad h => by cases h; exact n1)), hst _ _ _ ‹_› (.inl (fun ad h => by cases h; exact n1)), hst _ _ _ ‹_› (.inl (fun ad h => by cases h; exact n1)), hst _ _ _ ‹_› (.inl (fun ad h => by cases h; exact n1))⟩) | go_keep)
        (first | ((refine step_keep _ c1_len one1 (by rfl) (.tmp 15) (.tmp 38) 73 (by rfl) w.heap.size 2 i0 _ Try.underlying73 hi hz0 hz1 hz2 rfl (by decide) (by decide) _ k c' _ (by rfl) ((own_below (own_below HW.out ((Below.refl _ _).drew)) hbw2).alloc _) w2.heap.size 1 (a + ld) (by rfl) (news1 (by go_simp)) hkm (by have := hbw2.size; simp at this ⊢; omega) ?_; intro A2 c2' w3 hw3 hb3 hst)) | (go_at_call 99; with_reducible refine (ZC.out _ V1.out V2.out).mono ?_; rw [hld.out]; rintro e w2 ⟨rfl, hbw2⟩))
      go_split_ands
      clear o1 o4 o6
      have hb4 : Below w.heap.size w1 w3 := ((hb.drew.trans (hbw2.mono (by simpa using HBS))).alloc (by have := hbw2.size; simp at this; omega) _).trans hb3
      have hs4 := hb3.size
      go_wp2
      refine ⟨⟨k + 1, c2', A2, by omega, by omega, by go_num, rfl, hb4, by have := hbw2.size; simp at this hs4; omega, ?_⟩, by simp [intOf]; omega⟩
      rw [arcsN_step, HV.out]; exact hw3
    · have hkn : k = n := by omega
      subst hkn
      clear hr hr0 K1
      have HW := Lib.hid hw
      clear hw
      go_wp2
      go_ret
      exact ⟨A', c', rfl, own_mono HW.out (by omega), hbr⟩
theorem l06Arcs_any (A : Option Addr) (n c : Nat) (xs : List T3) (w : World) (g0 : Nat) (T : TypeId) (K0 : Blk w g0 T #[.slice A n c]) (hr : RdL c3 3 w w.heap.size A n c xs) (hok : strokeB xs = true) :
    Calls Try.prog 92 #[.pointer (some ⟨g0, 0, none⟩)] w fun e w' => ∃ A' c', e = .returned (.slice A' n c') ∧ w'.ownsRow w.heap.size 2 1 (.slice A' n c') n ((arcsN xs n).flatMap c1) ∧ Below w.heap.size w w' := l06Arcs_ptr A n c xs w g0 0 K0.cel hr hok
end Go.Proofs.Ytbfilhpgekgmbaa
