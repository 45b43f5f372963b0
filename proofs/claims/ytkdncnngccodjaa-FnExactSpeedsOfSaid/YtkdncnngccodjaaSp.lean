/- Contracts of SpeedsOf. -/
import Derived.Test.YtkdncnngccodjaaRr
import Derived.Test.YtkdncnngccodjaaPk
import Derived.Test.YtkdncnngccodjaaFlInt
import Derived.Deep.RegionHeld3
namespace Go.Proofs.Ytkdncnngccodjaa
open Go.ChangeShapes Go.WideShapes Go.ChangeAt Go.RowKit
def spdD (p q : T3) : Int := 1000 * lenD p q / (q.2.2 - p.2.2)
def spdAt (xs : List T3) (k : Nat) : Int := spdD (xs.getD k (0, 0, 0)) (xs.getD (k + 1) (0, 0, 0))
def spdN (xs : List T3) (k : Nat) : List Int := (List.range k).map (spdAt xs)
theorem spdN_len (xs : List T3) (k : Nat) : (spdN xs k).length = k := by simp [spdN]
theorem spdN_step (xs : List T3) (k : Nat) : spdN xs (k + 1) = spdN xs k ++ [spdAt xs k] := by simp [spdN, List.range_succ]
theorem spdAt_of {xs : List T3} {k : Nat} {p q : T3} (hk : 0 < k) (hp : xs[k - 1]? = some p) (hq : xs[k]? = some q) : spdAt xs (k - 1) = spdD p q := by
  unfold spdAt
  rw [getD_of hp, show k - 1 + 1 = k by omega, getD_of hq]
theorem spdD_bd {l d : Int} (h0 : 0 ≤ l) (h1 : l ≤ 92660) (hd : 1 ≤ d) : (1000 * l).tdiv d = 1000 * l / d ∧ 0 ≤ 1000 * l / d ∧ 1000 * l / d ≤ 92660000 :=
  ⟨Int.tdiv_eq_ediv_of_nonneg (by omega), Int.ediv_nonneg (by omega) (by omega), Int.le_trans (Int.ediv_le_self _ (by omega)) (by omega)⟩
set_option maxRecDepth 100000 in
set_option maxHeartbeats 8000000 in
theorem iSpeeds_any (A : Option Addr) (n c : Nat) (xs : List T3) (w : World) (hr : RdL c3 3 w w.heap.size A n c xs) (hn : n ≤ 1048576) :
    Calls Try.prog 24 #[.agg #[.slice A n c]] w fun e w' => ∃ A' n' c', e = .returned (.tuple #[.slice A' n' c', .int .i64 (okE (strokeB xs))]) ∧ w'.ownsRow w.heap.size 2 1 (.slice A' n' c') n' ((okL (strokeB xs) (spdN xs (xs.length - 1))).flatMap c1) ∧
      (okL (strokeB xs) (spdN xs (xs.length - 1))).length = n' ∧ n' ≤ 1048576 ∧ Below w.heap.size w w' := by
  obtain ⟨i0, hi, hz0, hz1, hz2⟩ := info_parts Try.infoInt64
  have hl := Lib.hid hr.len
  cases hok : strokeB xs with
  | false =>
    go_enter Try.func24, Try.ntmps24
    go_wp2_with fail
    have K0 := Blk.new (w) 28 #[.slice A n c]
    have hbv : Below (w).heap.size (w) ((w).alloc (.cells #[.slice A n c] 28)) := (Below.refl _ _).alloc (Nat.le_refl _) _
    replace hr := hr.on hbv
    generalize (w).alloc (.cells #[.slice A n c] 28) = v at *
    with_reducible refine (iValidStroke_any _ _ _ xs _ hr hn).mono ?_
    rintro e w1 ⟨rfl, hbw1⟩
    go_wp2
    go_ret2
    exact ⟨none, 0, 0, rfl, World.ownsRow_nil _ _ _ _, rfl, by decide, below_on hbw1 hbv⟩
  | true =>
    have Hok := Lib.hid hok
    have hle := strokeB_len hok
    rw [hr.len] at hle
    go_enter Try.func24, Try.ntmps24
    go_wp2_with fail
    have K0 := Blk.new (w) 28 #[.slice A n c]
    have hbv : Below (w).heap.size (w) ((w).alloc (.cells #[.slice A n c] 28)) := (Below.refl _ _).alloc (Nat.le_refl _) _
    replace hr := hr.on hbv
    generalize (w).alloc (.cells #[.slice A n c] 28) = v at *
    with_reducible refine (iValidStroke_any _ _ _ xs _ hr hn).mono ?_
    rintro e w1 ⟨rfl, hbw1⟩
    have hB := below_on hbw1 hbv
    replace K0 := K0.on hbw1
    replace hr := hr.on hbw1
    have hg0 := K0.lt
    go_wp2
    clear hok
    go_loopw [4, 5, 6, 7] (fun v i _ _ wr => ∃ (k c' : Nat) (A' : Option Addr), 1 ≤ k ∧ k ≤ n ∧ i = .int .i64 k ∧ v = .slice A' (k - 1) c' ∧ Below w1.heap.size w1 wr ∧ wr.ownsRow w1.heap.size 2 1 (.slice A' (k - 1) c') (k - 1) ((spdN xs (k - 1)).flatMap c1)) (fun _ i _ _ _ => n - (intOf i).toNat)
    case atStart => exact ⟨1, 0, _, by omega, by omega, rfl, rfl, (by repeat (first | exact Below.refl _ _ | assumption | refine Below.drew ?_ | refine below_drewN ?_ _ | refine Below.alloc ?_ (by first | omega | (simp <;> omega)) _ | refine Below.setCell ?_ (by first | omega | (simp <;> omega)) _)), World.ownsRow_nil _ _ _ _⟩
    case round =>
      obtain ⟨k, c', A', hk1, hk, rfl, rfl, hb, hw⟩ := hrel
      have K1 := K0.on hb
      have hbr := below_on hb hB
      have e0 := K1.cell 0
      simp only [List.getElem?_toArray, List.getElem?_cons_zero] at e0
      have zk := K1.lt
      by_cases hlt : k < n
      · obtain ⟨b, off, x, y, t, rfl, hbl, hx, q0, q1, q2⟩ := (hr.below hb).at3 hlt
        obtain ⟨b', off', x', y', t', he, _, hx', p0, p1, p2⟩ := (hr.below hb).at3 (show k - 1 < n by omega)
        cases he
        obtain ⟨_, _, hcs, _, hfar⟩ := own_form hw
        cases hcs
        have hbs := hb.size
        have V1 : ptOk (x', y', t') = true := strokeB_at Hok.out hx'.out
        have V2 : ptOk (x, y, t) = true := strokeB_at Hok.out hx.out
        have hup := strokeB_up Hok.out hx'.out (q := (x, y, t)) (by rw [show k - 1 + 1 = k by omega]; exact hx.out)
        simp only at hup
        obtain ⟨⟨u0, u1⟩, ⟨u2, u3⟩, u4, u5⟩ := ptOk_iff.1 V1
        obtain ⟨⟨v0, v1⟩, ⟨v2, v3⟩, v4, v5⟩ := ptOk_iff.1 V2
        obtain ⟨l0, l1⟩ := lenD_bd (t := t') (t' := t) u0 u1 u2 u3 v0 v1 v2 v3
        have HV : Hid (spdAt xs (k - 1) = 1000 * lenD (x', y', t') (x, y, t) / (t - t')) := spdAt_of hk1 hx'.out hx.out
        have V1 := Lib.hid V1
        have V2 := Lib.hid V2
        obtain ⟨ld, hld⟩ : ∃ ld, Hid (lenD (x', y', t') (x, y, t) = ld) := ⟨_, rfl⟩
        rw [hld.out] at l0 l1 HV
        obtain ⟨d1, d2, d3⟩ := spdD_bd l0 l1 (show 1 ≤ t - t' by omega)
        have i1 : (k : Int) < (n : Int) := by omega
        have i2 : (0 : Int) ≤ (k : Int) := by omega
        have i3 : (1 : Int) ≤ (k : Int) := by omega
        have o1 : IntKind.i64.wrap ((k : Int) - 1) = (k : Int) - 1 := IntWalk.i64_in _ (by omega)
        have o2 : (0 : Int) ≤ (k : Int) - 1 := by omega
        have o3 : (k : Int) - 1 < (n : Int) := by omega
        have o4 : ((k : Int) - 1).toNat = k - 1 := by omega
        have o6 : IntKind.i64.wrap (1000 * ld) = 1000 * ld := IntWalk.i64_in _ (by omega)
        have o7 : IntKind.i64.wrap (t - t') = t - t' := IntWalk.i64_in _ (by omega)
        have o8 : IntKind.i64.wrap (1000 * ld / (t - t')) = 1000 * ld / (t - t') := IntWalk.i64_in _ (by omega)
        have o9 : ¬ t - t' = 0 := by omega
        have o10 : (t - t' == 0) = false := by simp; omega
        have hkm : k - 1 ≤ 1048576 := by omega
        have HW := Lib.hid hw
        have HF := Lib.hid hfar
        have zc := lengthOf_any x' y' t' x y t
        have ZC := Lib.hid zc
        clear zc hr hw hfar K1 u0 u1 u2 u3 v0 v1 v2 v3 hle
        replace hbl : b < wr.heap.size := by omega
        go_wp2
        go_region_held3 (fun w' => w'.cell? ⟨w.heap.size, 0, none⟩ = some (.slice (some ⟨b, off, none⟩) n c) ∧ w'.cell? ⟨b, off + (k - 1) * 3, none⟩ = some (.int .i64 x') ∧ w'.cell? ⟨b, off + (k - 1) * 3 + 1, none⟩ = some (.int .i64 y') ∧ w'.cell? ⟨b, off + (k - 1) * 3 + 2, none⟩ = some (.int .i64 t') ∧ w'.cell? ⟨b, off + k * 3, none⟩ = some (.int .i64 x) ∧ w'.cell? ⟨b, off + k * 3 + 1, none⟩ = some (.int .i64 y) ∧ w'.cell? ⟨b, off + k * 3 + 2, none⟩ = some (.int .i64 t)) (first | exact ⟨e0, p0, p1, p2, q0, q1, q2⟩ | go_keep) (fail)
        · have P0 := (Blk.new wr 82 #[.int .i64 x', .int .i64 y', .int .i64 t']).alloc (.cells #[.int .i64 x, .int .i64 y, .int .i64 t] 82)
          have Q0 := Blk.new (wr.alloc (.cells #[.int .i64 x', .int .i64 y', .int .i64 t'] 82)) 82 #[.int .i64 x, .int .i64 y, .int .i64 t]
          rw [World.size_alloc] at Q0
          replace P0 := P0.drew
          replace Q0 := Q0.drew
          have hbW : Below wr.heap.size wr ((wr.alloc (.cells #[.int .i64 x', .int .i64 y', .int .i64 t'] 82)).alloc (.cells #[.int .i64 x, .int .i64 y, .int .i64 t] 82)).drew := (by repeat (first | exact Below.refl _ _ | assumption | refine Below.drew ?_ | refine below_drewN ?_ _ | refine Below.alloc ?_ (by first | omega | (simp <;> omega)) _ | refine Below.setCell ?_ (by first | omega | (simp <;> omega)) _))
          replace hb := below_on hbW hb
          have hw2 := own_below HW.out hbW
          have hbs2 := hb.size
          have fa : ∀ ad, A' = some ad → wr.heap.size ≠ ad.block := fun ad h => by have := (HF.out ad h).2; omega
          have fb : ∀ ad, A' = some ad → wr.heap.size + 1 ≠ ad.block := fun ad h => by have := (HF.out ad h).2; omega
          clear hbW hbl q0 q1 q2 p0 p1 p2 e0 hbr zk HF HW o1 o4
          generalize ((wr.alloc (.cells #[.int .i64 x', .int .i64 y', .int .i64 t'] 82)).alloc (.cells #[.int .i64 x, .int .i64 y, .int .i64 t] 82)).drew = wa at *
          generalize wr.heap.size = h0 at *
          generalize hh : h0 + 1 = h1 at *
          clear hh
          have p0 := P0.cell 0
          have p1 := P0.cell 1
          have p2 := P0.cell 2
          simp only [List.getElem?_toArray, List.getElem?_cons_succ, List.getElem?_cons_zero] at p0 p1 p2
          have q0 := Q0.cell 0
          have q1 := Q0.cell 1
          have q2 := Q0.cell 2
          simp only [List.getElem?_toArray, List.getElem?_cons_succ, List.getElem?_cons_zero] at q0 q1 q2
          have FA := Lib.hid fa
          have FB := Lib.hid fb
          have HW := Lib.hid hw2
          clear fa fb hw2 P0 Q0
          go_split_ands
          go_wp2
          go_region_held3 (fun w' => w'.cell? ⟨h0, 0, none⟩ = some (.int .i64 x') ∧ w'.cell? ⟨h0, 1, none⟩ = some (.int .i64 y') ∧ w'.cell? ⟨h0, 2, none⟩ = some (.int .i64 t') ∧ w'.cell? ⟨h1, 0, none⟩ = some (.int .i64 x) ∧ w'.cell? ⟨h1, 1, none⟩ = some (.int .i64 y) ∧ w'.cell? ⟨h1, 2, none⟩ = some (.int .i64 t))
            (first | exact ⟨p0, p1, p2, q0, q1, q2⟩ | (go_split_ands; exact ⟨cell_on2 hbw2 ‹_›, cell_on2 hbw2 ‹_›, cell_on2 hbw2 ‹_›, cell_on2 hbw2 ‹_›, cell_on2 hbw2 ‹_›, cell_on2 hbw2 ‹_›⟩) | (go_split_ands; exact ⟨hst _ _ _ ‹_› (.inl FA.out), hst _ _ _ ‹_› (.inl FA.out), hst _ _ _ ‹_› (.inl FA.out), hst _ _ _ ‹_› (.inl FB.out), hst _ _ _ ‹_› (.inl FB.out), hst _ _ _ ‹_› (.inl FB.out)⟩) | go_keep)
            (first | ((refine step_keep _ c1_len one1 (by rfl) (.tmp 29) (.tmp 40) 35 (by rfl) w1.heap.size 2 i0 _ Try.underlying35 hi hz0 hz1 hz2 rfl (by decide) (by decide) A' (k - 1) c' _ (by rfl) ((own_below (own_below HW.out ((Below.refl _ _).drew)) hbw2).alloc _) w2.heap.size 1 (1000 * ld / (t - t')) (by rfl) (news1 (by go_simp)) hkm (by have := hbw2.size; simp at this ⊢; omega) ?_; intro A2 c2' w3 hw3 hb3 hst)) | (go_at_call 74; with_reducible refine (ZC.out _ V1.out V2.out).mono ?_; rw [hld.out]; rintro e w2 ⟨rfl, hbw2⟩))
          go_split_ands
          clear o6 o7 o8
          have hb4 : Below w1.heap.size w1 w3 := ((hb.drew.trans (hbw2.mono (by simpa using hbs2))).alloc (by have := hbw2.size; simp at this; omega) _).trans hb3
          rw [show k - 1 + 1 = k by omega] at hw3
          go_wp2
          refine ⟨⟨k + 1, c2', A2, by omega, by omega, by go_num, by rw [Nat.add_sub_cancel]; try rw [show k - 1 + 1 = k by omega], hb4, ?_⟩, by simp [intOf]; omega⟩
          rw [Nat.add_sub_cancel]
          have hst2 := spdN_step xs (k - 1)
          rw [show k - 1 + 1 = k by omega, HV.out] at hst2
          rw [hst2]; exact hw3
        · have P0 := (Blk.new wr 82 #[.int .i64 x, .int .i64 y, .int .i64 t]).alloc (.cells #[.int .i64 x', .int .i64 y', .int .i64 t'] 82)
          have Q0 := Blk.new (wr.alloc (.cells #[.int .i64 x, .int .i64 y, .int .i64 t] 82)) 82 #[.int .i64 x', .int .i64 y', .int .i64 t']
          rw [World.size_alloc] at Q0
          replace P0 := P0.drew
          replace Q0 := Q0.drew
          have hbW : Below wr.heap.size wr ((wr.alloc (.cells #[.int .i64 x, .int .i64 y, .int .i64 t] 82)).alloc (.cells #[.int .i64 x', .int .i64 y', .int .i64 t'] 82)).drew := (by repeat (first | exact Below.refl _ _ | assumption | refine Below.drew ?_ | refine below_drewN ?_ _ | refine Below.alloc ?_ (by first | omega | (simp <;> omega)) _ | refine Below.setCell ?_ (by first | omega | (simp <;> omega)) _))
          replace hb := below_on hbW hb
          have hw2 := own_below HW.out hbW
          have hbs2 := hb.size
          have fa : ∀ ad, A' = some ad → wr.heap.size ≠ ad.block := fun ad h => by have := (HF.out ad h).2; omega
          have fb : ∀ ad, A' = some ad → wr.heap.size + 1 ≠ ad.block := fun ad h => by have := (HF.out ad h).2; omega
          clear hbW hbl q0 q1 q2 p0 p1 p2 e0 hbr zk HF HW o1 o4
          generalize ((wr.alloc (.cells #[.int .i64 x, .int .i64 y, .int .i64 t] 82)).alloc (.cells #[.int .i64 x', .int .i64 y', .int .i64 t'] 82)).drew = wa at *
          generalize wr.heap.size = h0 at *
          generalize hh : h0 + 1 = h1 at *
          clear hh
          have q0 := P0.cell 0
          have q1 := P0.cell 1
          have q2 := P0.cell 2
          simp only [List.getElem?_toArray, List.getElem?_cons_succ, List.getElem?_cons_zero] at q0 q1 q2
          have p0 := Q0.cell 0
          have p1 := Q0.cell 1
          have p2 := Q0.cell 2
          simp only [List.getElem?_toArray, List.getElem?_cons_succ, List.getElem?_cons_zero] at p0 p1 p2
          have FA := Lib.hid fa
          have FB := Lib.hid fb
          have HW := Lib.hid hw2
          clear fa fb hw2 P0 Q0
          go_split_ands
          go_wp2
          go_region_held3 (fun w' => w'.cell? ⟨h0, 0, none⟩ = some (.int .i64 x) ∧ w'.cell? ⟨h0, 1, none⟩ = some (.int .i64 y) ∧ w'.cell? ⟨h0, 2, none⟩ = some (.int .i64 t) ∧ w'.cell? ⟨h1, 0, none⟩ = some (.int .i64 x') ∧ w'.cell? ⟨h1, 1, none⟩ = some (.int .i64 y') ∧ w'.cell? ⟨h1, 2, none⟩ = some (.int .i64 t'))
            (first | exact ⟨q0, q1, q2, p0, p1, p2⟩ | (go_split_ands; exact ⟨cell_on2 hbw2 ‹_›, cell_on2 hbw2 ‹_›, cell_on2 hbw2 ‹_›, cell_on2 hbw2 ‹_›, cell_on2 hbw2 ‹_›, cell_on2 hbw2 ‹_›⟩) | (go_split_ands; exact ⟨hst _ _ _ ‹_› (.inl FA.out), hst _ _ _ ‹_› (.inl FA.out), hst _ _ _ ‹_› (.inl FA.out), hst _ _ _ ‹_› (.inl FB.out), hst _ _ _ ‹_› (.inl FB.out), hst _ _ _ ‹_› (.inl FB.out)⟩) | go_keep)
            (first | ((refine step_keep _ c1_len one1 (by rfl) (.tmp 29) (.tmp 40) 35 (by rfl) w1.heap.size 2 i0 _ Try.underlying35 hi hz0 hz1 hz2 rfl (by decide) (by decide) A' (k - 1) c' _ (by rfl) ((own_below (own_below HW.out ((Below.refl _ _).drew)) hbw2).alloc _) w2.heap.size 1 (1000 * ld / (t - t')) (by rfl) (news1 (by go_simp)) hkm (by have := hbw2.size; simp at this ⊢; omega) ?_; intro A2 c2' w3 hw3 hb3 hst)) | (go_at_call 74; with_reducible refine (ZC.out _ V1.out V2.out).mono ?_; rw [hld.out]; rintro e w2 ⟨rfl, hbw2⟩))
          go_split_ands
          clear o6 o7 o8
          have hb4 : Below w1.heap.size w1 w3 := ((hb.drew.trans (hbw2.mono (by simpa using hbs2))).alloc (by have := hbw2.size; simp at this; omega) _).trans hb3
          rw [show k - 1 + 1 = k by omega] at hw3
          go_wp2
          refine ⟨⟨k + 1, c2', A2, by omega, by omega, by go_num, by rw [Nat.add_sub_cancel]; try rw [show k - 1 + 1 = k by omega], hb4, ?_⟩, by simp [intOf]; omega⟩
          rw [Nat.add_sub_cancel]
          have hst2 := spdN_step xs (k - 1)
          rw [show k - 1 + 1 = k by omega, HV.out] at hst2
          rw [hst2]; exact hw3
      · have hkn : k = n := by omega
        subst hkn
        clear hr K1
        have HW := Lib.hid hw
        clear hw
        go_wp2
        go_ret2
        refine ⟨A', k - 1, c', rfl, ?_, ?_, by omega, hbr⟩
        · rw [hl.out]; exact own_mono HW.out hB.size
        · show (spdN xs (xs.length - 1)).length = k - 1; rw [spdN_len, hl.out]
set_option maxRecDepth 100000 in
set_option maxHeartbeats 8000000 in
theorem sSpeeds_any (A : Option Addr) (n c : Nat) (xs : List T3) (w : World) (hr : RdL c3 3 w w.heap.size A n c xs) (hn : n ≤ 1048576) :
    Calls Try.prog 23 #[.agg #[.slice A n c]] w fun e w' => ∃ A' n' c', e = .returned (.tuple #[.slice A' n' c', .int .i64 (okE (strokeB xs))]) ∧ w'.ownsRow w.heap.size 2 1 (.slice A' n' c') n' ((okL (strokeB xs) (spdN xs (xs.length - 1))).flatMap c1) ∧
      (okL (strokeB xs) (spdN xs (xs.length - 1))).length = n' ∧ n' ≤ 1048576 ∧ Below w.heap.size w w' := by
  obtain ⟨i0, hi, hz0, hz1, hz2⟩ := info_parts Try.infoInt64
  have hl := Lib.hid hr.len
  cases hok : strokeB xs with
  | false =>
    go_enter Try.func23, Try.ntmps23
    go_wp2_with fail
    have K0 := Blk.new (w) 28 #[.slice A n c]
    have hbv : Below (w).heap.size (w) ((w).alloc (.cells #[.slice A n c] 28)) := (Below.refl _ _).alloc (Nat.le_refl _) _
    replace hr := hr.on hbv
    generalize (w).alloc (.cells #[.slice A n c] 28) = v at *
    with_reducible refine (l02Stroke_any _ _ _ xs _ _ _ K0 hr hn).mono ?_
    rintro e w1 ⟨rfl, hbw1⟩
    go_wp2
    go_ret2
    exact ⟨none, 0, 0, rfl, World.ownsRow_nil _ _ _ _, rfl, by decide, below_on hbw1 hbv⟩
  | true =>
    have Hok := Lib.hid hok
    have hle := strokeB_len hok
    rw [hr.len] at hle
    go_enter Try.func23, Try.ntmps23
    go_wp2_with fail
    have K0 := Blk.new (w) 28 #[.slice A n c]
    have hbv : Below (w).heap.size (w) ((w).alloc (.cells #[.slice A n c] 28)) := (Below.refl _ _).alloc (Nat.le_refl _) _
    replace hr := hr.on hbv
    generalize (w).alloc (.cells #[.slice A n c] 28) = v at *
    with_reducible refine (l02Stroke_any _ _ _ xs _ _ _ K0 hr hn).mono ?_
    rintro e w1 ⟨rfl, hbw1⟩
    have hB := below_on hbw1 hbv
    replace K0 := K0.on hbw1
    replace hr := hr.on hbw1
    have hg0 := K0.lt
    go_wp2
    clear hok
    go_loopw [4, 5] (fun v i wr => ∃ (k c' : Nat) (A' : Option Addr), 1 ≤ k ∧ k ≤ n ∧ i = .int .i64 k ∧ v = .slice A' (k - 1) c' ∧ Below w1.heap.size w1 wr ∧ wr.ownsRow w1.heap.size 2 1 (.slice A' (k - 1) c') (k - 1) ((spdN xs (k - 1)).flatMap c1)) (fun _ i _ => n - (intOf i).toNat)
    case atStart => exact ⟨1, 0, _, by omega, by omega, rfl, rfl, (by repeat (first | exact Below.refl _ _ | assumption | refine Below.drew ?_ | refine below_drewN ?_ _ | refine Below.alloc ?_ (by first | omega | (simp <;> omega)) _ | refine Below.setCell ?_ (by first | omega | (simp <;> omega)) _)), by simpa [spdN] using World.ownsRow_lit (base := w1.heap.size) (e := 2) (size := 1) w1 #[] 0 (Nat.le_refl _) (by simp [maxLen]) rfl⟩
    case round =>
      obtain ⟨k, c', A', hk1, hk, rfl, rfl, hb, hw⟩ := hrel
      have K1 := K0.on hb
      have hbr := below_on hb hB
      have e0 := K1.cell 0
      simp only [List.getElem?_toArray, List.getElem?_cons_zero] at e0
      have zk := K1.lt
      by_cases hlt : k < n
      · obtain ⟨b, off, x, y, t, rfl, hbl, hx, q0, q1, q2⟩ := (hr.below hb).at3 hlt
        obtain ⟨b', off', x', y', t', he, _, hx', p0, p1, p2⟩ := (hr.below hb).at3 (show k - 1 < n by omega)
        cases he
        obtain ⟨_, _, hcs, _, hfar⟩ := own_form hw
        cases hcs
        have hbs := hb.size
        have V1 : ptOk (x', y', t') = true := strokeB_at Hok.out hx'.out
        have V2 : ptOk (x, y, t) = true := strokeB_at Hok.out hx.out
        have hup := strokeB_up Hok.out hx'.out (q := (x, y, t)) (by rw [show k - 1 + 1 = k by omega]; exact hx.out)
        simp only at hup
        obtain ⟨⟨u0, u1⟩, ⟨u2, u3⟩, u4, u5⟩ := ptOk_iff.1 V1
        obtain ⟨⟨v0, v1⟩, ⟨v2, v3⟩, v4, v5⟩ := ptOk_iff.1 V2
        obtain ⟨l0, l1⟩ := lenD_bd (t := t') (t' := t) u0 u1 u2 u3 v0 v1 v2 v3
        have HV : Hid (spdAt xs (k - 1) = 1000 * lenD (x', y', t') (x, y, t) / (t - t')) := spdAt_of hk1 hx'.out hx.out
        have V1 := Lib.hid V1
        have V2 := Lib.hid V2
        obtain ⟨ld, hld⟩ : ∃ ld, Hid (lenD (x', y', t') (x, y, t) = ld) := ⟨_, rfl⟩
        rw [hld.out] at l0 l1 HV
        obtain ⟨d1, d2, d3⟩ := spdD_bd l0 l1 (show 1 ≤ t - t' by omega)
        have i1 : (k : Int) < (n : Int) := by omega
        have i2 : (0 : Int) ≤ (k : Int) := by omega
        have i3 : (1 : Int) ≤ (k : Int) := by omega
        have o1 : IntKind.i64.wrap ((k : Int) - 1) = (k : Int) - 1 := IntWalk.i64_in _ (by omega)
        have o2 : (0 : Int) ≤ (k : Int) - 1 := by omega
        have o3 : (k : Int) - 1 < (n : Int) := by omega
        have o4 : ((k : Int) - 1).toNat = k - 1 := by omega
        have o6 : IntKind.i64.wrap (1000 * ld) = 1000 * ld := IntWalk.i64_in _ (by omega)
        have o7 : IntKind.i64.wrap (t - t') = t - t' := IntWalk.i64_in _ (by omega)
        have o8 : IntKind.i64.wrap (1000 * ld / (t - t')) = 1000 * ld / (t - t') := IntWalk.i64_in _ (by omega)
        have o9 : ¬ t - t' = 0 := by omega
        have o10 : (t - t' == 0) = false := by simp; omega
        have hkm : k - 1 ≤ 1048576 := by omega
        have HW := Lib.hid hw
        have HF := Lib.hid hfar
        have zc := l05Length_any x' y' t' x y t
        have ZC := Lib.hid zc
        clear zc hr hw hfar K1 u0 u1 u2 u3 v0 v1 v2 v3 hle
        have fb : ∀ ad, A' = some ad → b ≠ ad.block := fun ad h => by have := (HF.out ad h).1; omega
        have fw : ∀ ad, A' = some ad → w.heap.size ≠ ad.block := fun ad h => by have := (HF.out ad h).1; omega
        have FB := Lib.hid fb
        have FW := Lib.hid fw
        clear fb fw
        go_wp2
        go_region_held3 (fun w' => w'.cell? ⟨w.heap.size, 0, none⟩ = some (.slice (some ⟨b, off, none⟩) n c) ∧ w'.cell? ⟨b, off + (k - 1) * 3, none⟩ = some (.int .i64 x') ∧ w'.cell? ⟨b, off + (k - 1) * 3 + 1, none⟩ = some (.int .i64 y') ∧ w'.cell? ⟨b, off + (k - 1) * 3 + 2, none⟩ = some (.int .i64 t') ∧ w'.cell? ⟨b, off + k * 3, none⟩ = some (.int .i64 x) ∧ w'.cell? ⟨b, off + k * 3 + 1, none⟩ = some (.int .i64 y) ∧ w'.cell? ⟨b, off + k * 3 + 2, none⟩ = some (.int .i64 t))
          (first | exact ⟨e0, p0, p1, p2, q0, q1, q2⟩ | (go_split_ands; exact ⟨cell_on2 hbw2 ‹_›, cell_on2 hbw2 ‹_›, cell_on2 hbw2 ‹_›, cell_on2 hbw2 ‹_›, cell_on2 hbw2 ‹_›, cell_on2 hbw2 ‹_›, cell_on2 hbw2 ‹_›⟩) | (go_split_ands; exact ⟨hst _ _ _ ‹_› (.inl FW.out), hst _ _ _ ‹_› (.inl FB.out), hst _ _ _ ‹_› (.inl FB.out), hst _ _ _ ‹_› (.inl FB.out), hst _ _ _ ‹_› (.inl FB.out), hst _ _ _ ‹_› (.inl FB.out), hst _ _ _ ‹_› (.inl FB.out)⟩) | go_keep)
          (first | ((refine step_keep _ c1_len one1 (by rfl) (.tmp 16) (.tmp 45) 35 (by rfl) w1.heap.size 2 i0 _ Try.underlying35 hi hz0 hz1 hz2 rfl (by decide) (by decide) A' (k - 1) c' _ (by rfl) ((own_below (own_below HW.out ((Below.refl _ _).drew)) hbw2).alloc _) w2.heap.size 1 (1000 * ld / (t - t')) (by rfl) (news1 (by go_simp)) hkm (by have := hbw2.size; simp at this ⊢; omega) ?_; intro A2 c2' w3 hw3 hb3 hst)) | (go_at_call 73; with_reducible refine (ZC.out _ V1.out V2.out).mono ?_; rw [hld.out]; rintro e w2 ⟨rfl, hbw2⟩))
        go_split_ands
        clear o1 o4 o6 o7 o8
        have hb4 : Below w1.heap.size w1 w3 := ((hb.drew.trans (hbw2.mono (by simpa using hbs))).alloc (by have := hbw2.size; simp at this; omega) _).trans hb3
        rw [show k - 1 + 1 = k by omega] at hw3
        go_wp2
        refine ⟨⟨k + 1, c2', A2, by omega, by omega, by go_num, by rw [Nat.add_sub_cancel]; try rw [show k - 1 + 1 = k by omega], hb4, ?_⟩, by simp [intOf]; omega⟩
        rw [Nat.add_sub_cancel]
        have hst2 := spdN_step xs (k - 1)
        rw [show k - 1 + 1 = k by omega, HV.out] at hst2
        rw [hst2]; exact hw3
      · have hkn : k = n := by omega
        subst hkn
        clear hr K1
        have HW := Lib.hid hw
        clear hw
        go_wp2
        go_ret2
        refine ⟨A', k - 1, c', rfl, ?_, ?_, by omega, hbr⟩
        · rw [hl.out]; exact own_mono HW.out hB.size
        · show (spdN xs (xs.length - 1)).length = k - 1; rw [spdN_len, hl.out]
end Go.Proofs.Ytkdncnngccodjaa
