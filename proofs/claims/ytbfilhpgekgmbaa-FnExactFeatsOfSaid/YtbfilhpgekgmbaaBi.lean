/- The box of ink: the program's boxOfInk, the reference's l02All. -/
import Derived.Test.YtbfilhpgekgmbaaBk
import Derived.WalkSpells
import Derived.Deep.RegionLaw
import Derived.Deep.RegionHeld3
namespace Go.Proofs.Ytbfilhpgekgmbaa
open Go.ChangeShapes Go.WideShapes Go.ChangeAt Go.RowKit
set_option linter.unusedVariables false
set_option linter.unusedSimpArgs false
theorem Blk.four {w : World} {g : Nat} {t : TypeId} {a b c d : Value} (h : Blk w g t #[a, b, c, d]) :
    w.cell? ⟨g, 0, none⟩ = some a ∧ w.cell? ⟨g, 1, none⟩ = some b ∧ w.cell? ⟨g, 2, none⟩ = some c ∧ w.cell? ⟨g, 3, none⟩ = some d ∧
      w.frozen? ⟨g, 0, none⟩ = false ∧ w.frozen? ⟨g, 1, none⟩ = false ∧ w.frozen? ⟨g, 2, none⟩ = false ∧ w.frozen? ⟨g, 3, none⟩ = false ∧ g < w.heap.size :=
  ⟨h.cell 0, h.cell 1, h.cell 2, h.cell 3, h.frozen 0, h.frozen 1, h.frozen 2, h.frozen 3, h.lt⟩
set_option maxRecDepth 100000 in
set_option maxHeartbeats 8000000 in
theorem boxOfInk_any (A : Option Addr) (n c : Nat) (xs : List (List T3)) (w : World) (hr : NL w w.heap.size A n c xs) (hok : inkB xs = true) (h0 : 0 < n) :
    Calls Try.prog 43 #[.agg #[.slice A n c]] w fun e w' => e = .returned (.agg (v4 (bxI xs))) ∧ Below w.heap.size w w' := by
  have hl := Lib.hid hr.len
  have h16 := inkB_len hok
  rw [hl.out] at h16
  obtain ⟨b0, off0, B0, n0, cc0, x0, rfl, hbl0, hx0, q0, hx30⟩ := hr.at_ h0
  have hs0 := inkB_at hok hx0.out
  have Hok := Lib.hid hok
  have HR := Lib.hid hr
  have HX := Lib.hid hx30
  have hcap : n ≤ 9223372036854775807 := Nat.le_trans hr.cap hr.capm
  have i0 : (0 : Int) < (n : Int) := by omega
  clear hr hx30
  rw [Nat.add_zero] at q0
  go_enter Try.func43, Try.ntmps43
  go_wp2_with fail
  have K0 : Blk ((w.alloc (.cells #[.slice (some ⟨b0, off0, none⟩) n c] 28)).alloc (.cells #[.int .i64 0, .int .i64 0, .int .i64 0, .int .i64 0] 64)) (w.heap.size) 28 #[.slice (some ⟨b0, off0, none⟩) n c] := by have hk := (Blk.new w 28 #[.slice (some ⟨b0, off0, none⟩) n c]).alloc (.cells #[.int .i64 0, .int .i64 0, .int .i64 0, .int .i64 0] 64); simpa using hk
  have R0 : Blk ((w.alloc (.cells #[.slice (some ⟨b0, off0, none⟩) n c] 28)).alloc (.cells #[.int .i64 0, .int .i64 0, .int .i64 0, .int .i64 0] 64)) (w.heap.size + 1) 64 #[.int .i64 0, .int .i64 0, .int .i64 0, .int .i64 0] := by have hk := Blk.new (w.alloc (.cells #[.slice (some ⟨b0, off0, none⟩) n c] 28)) 64 #[.int .i64 0, .int .i64 0, .int .i64 0, .int .i64 0]; simpa using hk
  have hbv : Below w.heap.size w ((w.alloc (.cells #[.slice (some ⟨b0, off0, none⟩) n c] 28)).alloc (.cells #[.int .i64 0, .int .i64 0, .int .i64 0, .int .i64 0] 64)) := (by repeat (first | exact Below.refl _ _ | assumption | refine Below.drew ?_ | refine below_drewN ?_ _ | refine Below.alloc ?_ (by first | omega | (simp <;> omega)) _ | refine Below.setCell ?_ (by first | omega | (simp <;> omega)) _))
  generalize ((w.alloc (.cells #[.slice (some ⟨b0, off0, none⟩) n c] 28)).alloc (.cells #[.int .i64 0, .int .i64 0, .int .i64 0, .int .i64 0] 64)) = v at *
  have hB := hbv
  have q1 := (hbv.cell (p := ⟨b0, off0, none⟩) hbl0).trans q0
  have e0 := K0.cell 0
  simp only [List.getElem?_toArray, List.getElem?_cons_zero] at e0
  go_wp2_with fail
  with_reducible refine (boxOfStroke_any _ _ _ x0 _ (HX.out.on hbv) hs0).mono ?_
  rintro e w1 ⟨rfl, hb1⟩
  have HR1 := Lib.hid ((HR.out.on hbv).on hb1)
  replace K0 := K0.on hb1
  replace R0 := R0.on hb1
  replace hB := below_on hb1 hB
  have hB0 := hB
  have R00 := R0
  have z9 := hB.size
  clear e0 hb1 hbv q0 q1 HX HR
  have e0 := K0.cell 0
  simp only [List.getElem?_toArray, List.getElem?_cons_zero] at e0
  have z0 := K0.lt
  have z1 := R0.lt
  obtain ⟨⟨a1, a2, a3, a4⟩, hbx⟩ : ∃ bx, bxS x0 = bx := ⟨_, rfl⟩
  have HB0 : Hid (bxG xs 0 = (a1, a2, a3, a4)) := (bxG_zero hx0.out).trans hbx
  rw [hbx]
  clear hbx
  go_wp2_with fail
  have J0 := Blk.new (w1) 64 #[.int .i64 a1, .int .i64 a2, .int .i64 a3, .int .i64 a4]
  have hbv2 : Below (w1).heap.size (w1) ((w1).alloc (.cells #[.int .i64 a1, .int .i64 a2, .int .i64 a3, .int .i64 a4] 64)) := (Below.refl _ _).alloc (Nat.le_refl _) _
  generalize (w1).alloc (.cells #[.int .i64 a1, .int .i64 a2, .int .i64 a3, .int .i64 a4] 64) = v2 at *
  have hr := HR1.out.on hbv2
  replace K0 := K0.on hbv2
  replace R0 := R0.on hbv2
  replace hB := below_on hbv2 hB
  have J1 : Blk v2 w1.heap.size 64 (v4 (bxG xs 0)) := by rw [HB0.out]; exact J0
  clear J0 e0 HB0 hr
  go_loopw [14] (fun i wr => ∃ k : Nat, k ≤ n ∧ i = .int .i64 k ∧ Below w1.heap.size w1 wr ∧ Blk wr w1.heap.size 64 (v4 (bxG xs k))) (fun i _ => n - (intOf i).toNat)
  case atStart => exact ⟨0, by omega, rfl, hbv2, J1⟩
  case round =>
    clear J1 hbv2
    obtain ⟨k, hk, rfl, hb, J0⟩ := hrel
    have hbw := below_app hB0 hb z9
    have R1 := R00.on hb
    have z3 := R1.lt
    have zj := J0.lt
    obtain ⟨⟨b1, b2, b3, b4⟩, hbx⟩ : ∃ bx, bxG xs k = bx := ⟨_, rfl⟩
    rw [hbx] at J0
    have HBX := Lib.hid hbx
    clear hbx
    by_cases hlt : k < n
    · obtain ⟨b, off, B', n', cc, x, he, hbl, hx, q0, hx3⟩ := (HR1.out.on hb).at_ hlt
      cases he
      have i1 : (k : Int) < (n : Int) := by omega
      have i2 : (0 : Int) ≤ (k : Int) := by omega
      have hs := inkB_at Hok.out hx.out
      obtain ⟨⟨d1, d2, d3, d4⟩, hdx⟩ : ∃ bx, bxS x = bx := ⟨_, rfl⟩
      have HDX := Lib.hid hdx
      have HX := Lib.hid hx3
      clear hdx hx3
      go_wp2_with fail
      have P0 := Blk.new (wr) 52 #[.slice B' n' cc]
      have hbwa : Below (wr).heap.size (wr) ((wr).alloc (.cells #[.slice B' n' cc] 52)) := (Below.refl _ _).alloc (Nat.le_refl _) _
      generalize (wr).alloc (.cells #[.slice B' n' cc] 52) = wa at *
      have HX2 := Lib.hid (HX.out.on hbwa)
      have J2 := J0.on hbwa
      have p0 := P0.cell 0
      simp only [List.getElem?_toArray, List.getElem?_cons_zero] at p0
      obtain ⟨j0, j1, j2, j3, f0, f1, f2, f3, zj2⟩ := J2.four
      have R2 := R1.on hbwa
      have hba := below_app hb hbwa hb.size
      clear q0 HX P0 J0
      go_region_law (first | (go_simp; go_at_call 69; with_reducible refine (boxOfStroke_any _ _ _ x _ (HX2.out.on (Below.refl _ _).drew) hs).mono ?_; rw [HDX.out]; rintro e w3 ⟨rfl, hbw3⟩; obtain ⟨m0, m1, m2, m3, g0, g1, g2, g3, zj3⟩ := (J2.drew.on hbw3).four) | (go_simp; go_at_call 70; with_reducible refine (joinBoxes_any b1 b2 b3 b4 d1 d2 d3 d4 _).mono ?_; rintro e w4 ⟨rfl, hbw4⟩; obtain ⟨s0, s1, s2, s3, t0, t1, t2, t3, zj4⟩ := ((J2.drew.on hbw3).on hbw4).four))
      all_goals
        have hb5 : Below w1.heap.size w1 w4 := below_app (below_app hba.drew hbw3 hba.size) hbw4 (Nat.le_trans hba.size hbw3.size)
        go_wp2
        refine ⟨⟨k + 1, by omega, by go_num, (by repeat (first | exact Below.refl _ _ | assumption | refine Below.drew ?_ | refine below_drewN ?_ _ | refine Below.alloc ?_ (by first | omega | (simp <;> omega)) _ | refine Below.setCell ?_ (by first | omega | (simp <;> omega)) _)), ?_⟩, by simp [intOf]; omega⟩
        have e9 := bxG_step hx.out
        rw [HBX.out, HDX.out] at e9
        rw [e9]
        exact (((J2.drew.on hbw3).on hbw4)).set4 _ _ _ _
    · have hkn : k = n := by omega
      subst hkn
      have hbx : bxI xs = (b1, b2, b3, b4) := by unfold bxI; rw [hl.out]; exact HBX.out
      obtain ⟨j0, j1, j2, j3, f0, f1, f2, f3, zj2⟩ := J0.four
      obtain ⟨r0, r1, r2, r3, l0, l1, l2, l3, zr⟩ := R1.four
      have HX9 := Lib.hid hbx
      clear hbx
      go_wp2
      rw [HX9.out]
      exact bodyPost_ret (v := .agg #[.int .i64 b1, .int .i64 b2, .int .i64 b3, .int .i64 b4]) (by simp [results, Try.results43, go_sem, r0, r1, r2, r3]) rfl ⟨rfl, (by repeat (first | exact Below.refl _ _ | assumption | refine Below.drew ?_ | refine below_drewN ?_ _ | refine Below.alloc ?_ (by first | omega | (simp <;> omega)) _ | refine Below.setCell ?_ (by first | omega | (simp <;> omega)) _))⟩
set_option maxRecDepth 100000 in
set_option maxHeartbeats 8000000 in
theorem l02All_ptr (A : Option Addr) (n c : Nat) (xs : List (List T3)) (w : World) (gk oo : Nat) (K0 : Cel w gk oo (.slice A n c)) (hr : NL w w.heap.size A n c xs) (hok : inkB xs = true) (h0 : 0 < n) :
    Calls Try.prog 41 #[.pointer (some ⟨gk, oo, none⟩)] w fun e w' => e = .returned (.agg (v4 (bxI xs))) ∧ Below w.heap.size w w' := by
  have hl := Lib.hid hr.len
  have h16 := inkB_len hok
  rw [hl.out] at h16
  obtain ⟨b0, off0, B0, n0, cc0, x0, rfl, hbl0, hx0, q0, hx30⟩ := hr.at_ h0
  have hs0 := inkB_at hok hx0.out
  have Hok := Lib.hid hok
  have HR := Lib.hid hr
  have HX := Lib.hid hx30
  have hcap : n ≤ 9223372036854775807 := Nat.le_trans hr.cap hr.capm
  have i0 : (0 : Int) < (n : Int) := by omega
  clear hr hx30
  rw [Nat.add_zero] at q0
  have HC := Lib.hid (show Cel w b0 off0 (.slice B0 n0 cc0) from ⟨hbl0, q0⟩)
  have e0 := K0.cell
  have z0 := K0.lt
  go_enter Try.func41, Try.ntmps41
  go_wp2_with fail
  have R0 : Blk (w.alloc (.cells #[.int .i64 0, .int .i64 0, .int .i64 0, .int .i64 0] 64)) (w.heap.size) 64 #[.int .i64 0, .int .i64 0, .int .i64 0, .int .i64 0] := by have hk := Blk.new w 64 #[.int .i64 0, .int .i64 0, .int .i64 0, .int .i64 0]; simpa using hk
  have hbv : Below w.heap.size w (w.alloc (.cells #[.int .i64 0, .int .i64 0, .int .i64 0, .int .i64 0] 64)) := (by repeat (first | exact Below.refl _ _ | assumption | refine Below.drew ?_ | refine below_drewN ?_ _ | refine Below.alloc ?_ (by first | omega | (simp <;> omega)) _ | refine Below.setCell ?_ (by first | omega | (simp <;> omega)) _))
  generalize (w.alloc (.cells #[.int .i64 0, .int .i64 0, .int .i64 0, .int .i64 0] 64)) = v at *
  replace K0 := K0.on hbv
  have hB := hbv
  clear e0 q0
  have e0 := K0.cell
  go_wp2_with fail
  with_reducible refine (l02BoxOf_ptr _ _ _ x0 _ _ _ (HC.out.on hbv) (HX.out.on hbv) hs0).mono ?_
  rintro e w1 ⟨rfl, hb1⟩
  have HR1 := Lib.hid ((HR.out.on hbv).on hb1)
  replace K0 := K0.on hb1
  replace R0 := R0.on hb1
  replace hB := below_on hb1 hB
  have hB0 := hB
  have R00 := R0
  have K00 := K0
  have z9 := hB.size
  clear e0 hb1 hbv HX HR
  have e0 := K0.cell
  have z1 := R0.lt
  obtain ⟨⟨a1, a2, a3, a4⟩, hbx⟩ : ∃ bx, bxS x0 = bx := ⟨_, rfl⟩
  have HB0 : Hid (bxG xs 1 = (a1, a2, a3, a4)) := (bxG_one hx0.out).trans hbx
  rw [hbx]
  clear hbx
  go_wp2_with fail
  have J0 := Blk.new (w1) 64 #[.int .i64 a1, .int .i64 a2, .int .i64 a3, .int .i64 a4]
  have hbv2 : Below (w1).heap.size (w1) ((w1).alloc (.cells #[.int .i64 a1, .int .i64 a2, .int .i64 a3, .int .i64 a4] 64)) := (Below.refl _ _).alloc (Nat.le_refl _) _
  generalize (w1).alloc (.cells #[.int .i64 a1, .int .i64 a2, .int .i64 a3, .int .i64 a4] 64) = v2 at *
  have J1 : Blk v2 w1.heap.size 64 (v4 (bxG xs 1)) := by rw [HB0.out]; exact J0
  clear J0 e0 HB0 K0 R0
  go_loopw [4] (fun i wr => ∃ k : Nat, k ≤ n ∧ i = .int .i64 k ∧ Below w1.heap.size w1 wr ∧ Blk wr w1.heap.size 64 (v4 (bxG xs k))) (fun i _ => n - (intOf i).toNat)
  case atStart => exact ⟨1, by omega, rfl, hbv2, J1⟩
  case round =>
    clear J1 hbv2
    obtain ⟨k, hk, rfl, hb, J0⟩ := hrel
    have hbw := below_app hB0 hb z9
    have R1 := R00.on hb
    have K1 := K00.on hb
    have e0 := K1.cell
    have zk := K1.lt
    have z3 := R1.lt
    have zj := J0.lt
    obtain ⟨⟨b1, b2, b3, b4⟩, hbx⟩ : ∃ bx, bxG xs k = bx := ⟨_, rfl⟩
    rw [hbx] at J0
    have HBX := Lib.hid hbx
    clear hbx
    by_cases hlt : k < n
    · obtain ⟨b, off, B', n', cc, x, he, hbl, hx, q0, hx3⟩ := (HR1.out.on hb).at_ hlt
      cases he
      have i1 : (k : Int) < (n : Int) := by omega
      have i2 : (0 : Int) ≤ (k : Int) := by omega
      have hs := inkB_at Hok.out hx.out
      obtain ⟨⟨d1, d2, d3, d4⟩, hdx⟩ : ∃ bx, bxS x = bx := ⟨_, rfl⟩
      have HDX := Lib.hid hdx
      have HX := Lib.hid hx3
      have HC2 := Lib.hid (show Cel wr b0 (off0 + k) (.slice B' n' cc) from ⟨hbl, q0⟩)
      obtain ⟨j0, j1, j2, j3, f0, f1, f2, f3, zj2⟩ := J0.four
      clear hdx hx3 q0
      go_wp2_with fail
      go_region_law (first | (go_simp; go_at_call 49; with_reducible refine (l02BoxOf_ptr _ _ _ x _ _ _ (HC2.out.on (Below.refl _ _).drew) (HX.out.on (Below.refl _ _).drew) hs).mono ?_; rw [HDX.out]; rintro e w3 ⟨rfl, hbw3⟩; have e9 := ((K1.on (Below.refl _ _).drew).on hbw3).cell; obtain ⟨m0, m1, m2, m3, g0, g1, g2, g3, zj3⟩ := (J0.drew.on hbw3).four) | (go_simp; go_at_call 67; with_reducible refine (l02Join_any b1 b2 b3 b4 d1 d2 d3 d4 _).mono ?_; rintro e w4 ⟨rfl, hbw4⟩; obtain ⟨s0, s1, s2, s3, t0, t1, t2, t3, zj4⟩ := ((J0.drew.on hbw3).on hbw4).four))
      all_goals
        have hb5 : Below w1.heap.size w1 w4 := below_app (below_app hb.drew hbw3 hb.size) hbw4 (Nat.le_trans hb.size hbw3.size)
        go_wp2
        refine ⟨⟨k + 1, by omega, by go_num, (by repeat (first | exact Below.refl _ _ | assumption | refine Below.drew ?_ | refine below_drewN ?_ _ | refine Below.alloc ?_ (by first | omega | (simp <;> omega)) _ | refine Below.setCell ?_ (by first | omega | (simp <;> omega)) _)), ?_⟩, by simp [intOf]; omega⟩
        have e9 := bxG_step hx.out
        rw [HBX.out, HDX.out] at e9
        rw [e9]
        exact (((J0.drew.on hbw3).on hbw4)).set4 _ _ _ _
    · have hkn : k = n := by omega
      subst hkn
      have hbx : bxI xs = (b1, b2, b3, b4) := by unfold bxI; rw [hl.out]; exact HBX.out
      obtain ⟨j0, j1, j2, j3, f0, f1, f2, f3, zj2⟩ := J0.four
      obtain ⟨r0, r1, r2, r3, l0, l1, l2, l3, zr⟩ := R1.four
      have HX9 := Lib.hid hbx
      clear hbx
      go_wp2
      rw [HX9.out]
      exact bodyPost_ret (v := .agg #[.int .i64 b1, .int .i64 b2, .int .i64 b3, .int .i64 b4]) (by simp [results, Try.results41, go_sem, r0, r1, r2, r3]) rfl ⟨rfl, (by repeat (first | exact Below.refl _ _ | assumption | refine Below.drew ?_ | refine below_drewN ?_ _ | refine Below.alloc ?_ (by first | omega | (simp <;> omega)) _ | refine Below.setCell ?_ (by first | omega | (simp <;> omega)) _))⟩
end Go.Proofs.Ytbfilhpgekgmbaa
