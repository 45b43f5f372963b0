/- SpotAt. -/
import Derived.Test.YtpmaiklooapnfaaSa
namespace Go.Proofs.Ytpmaiklooapnfaa
open Go.ChangeShapes Go.WideShapes Go.ChangeAt Go.RowKit
def sptB (xs : List T3) (part parts : Int) : Bool := strokeB xs && (inB 1 1000 parts && inB 0 parts part)
def sptV (xs : List T3) (part parts : Int) : T2 := if sptB xs part parts = true then spotV xs part parts else (0, 0)
def sptE (xs : List T3) (part parts : Int) : Int := if strokeB xs = true then (if (inB 1 1000 parts && inB 0 parts part) = true then 0 else 2) else 1
theorem spt_bad {xs : List T3} {part parts : Int} (h : strokeB xs = false) : sptV xs part parts = (0, 0) ∧ sptE xs part parts = 1 := by unfold sptV sptE sptB; rw [h]; exact ⟨rfl, rfl⟩
theorem spt_far {xs : List T3} {part parts : Int} (h : strokeB xs = true) (h2 : (inB 1 1000 parts && inB 0 parts part) = false) : sptV xs part parts = (0, 0) ∧ sptE xs part parts = 2 := by unfold sptV sptE sptB; rw [h, h2]; exact ⟨rfl, rfl⟩
theorem spt_ok {xs : List T3} {part parts : Int} (h : strokeB xs = true) (h2 : inB 1 1000 parts = true) (h3 : inB 0 parts part = true) : sptV xs part parts = spotV xs part parts ∧ sptE xs part parts = 0 := by unfold sptV sptE sptB; rw [h, h2, h3]; exact ⟨rfl, rfl⟩
set_option maxRecDepth 100000 in
set_option maxHeartbeats 8000000 in
theorem iSpotAt_any (A : Option Addr) (n c : Nat) (xs : List T3) (part parts : Int) (w : World) (hr : RdL c3 3 w w.heap.size A n c xs) (hn : n ≤ 1048576) :
    Calls Try.prog 24 #[.agg #[.slice A n c], .int .i64 part, .int .i64 parts] w fun e w' => e = .returned (.tuple #[.agg #[.int .i64 (sptV xs part parts).1, .int .i64 (sptV xs part parts).2], .int .i64 (sptE xs part parts)]) ∧ Below w.heap.size w w' := by
  have K0 : Blk ((w.alloc (.cells #[.slice A n c] 28)).alloc (.cells #[.int .i64 0, .int .i64 0] 38)) w.heap.size 28 #[.slice A n c] := (Blk.new _ _ _).alloc _
  have R0 : Blk ((w.alloc (.cells #[.slice A n c] 28)).alloc (.cells #[.int .i64 0, .int .i64 0] 38)) (w.heap.size + 1) 38 #[.int .i64 0, .int .i64 0] := by have h := Blk.new (w.alloc (.cells #[.slice A n c] 28)) 38 #[.int .i64 0, .int .i64 0]; simpa using h
  have hB : Below w.heap.size w ((w.alloc (.cells #[.slice A n c] 28)).alloc (.cells #[.int .i64 0, .int .i64 0] 38)) := (by repeat (first | exact Below.refl _ _ | assumption | refine Below.drew ?_ | refine below_drewN ?_ _ | refine Below.alloc ?_ (by first | omega | (simp <;> omega)) _ | refine Below.setCell ?_ (by first | omega | (simp <;> omega)) _))
  have HR := Lib.hid hr
  have hl := Lib.hid hr.len
  go_enter Try.func24, Try.ntmps24
  go_wp2_with fail
  generalize (w.alloc (.cells #[.slice A n c] 28)).alloc (.cells #[.int .i64 0, .int .i64 0] 38) = v at *
  with_reducible refine (iValidStroke_any _ _ _ xs _ (hr.on hB) hn).mono ?_
  rintro e w1 ⟨rfl, hbw1⟩
  replace R0 := R0.on hbw1
  replace K0 := K0.on hbw1
  replace hB := below_on hbw1 hB
  clear hr hbw1
  obtain ⟨j0, j1, f0, f1, zr⟩ := R0.two
  cases hok : strokeB xs with
  | false =>
    have F := spt_bad (part := part) (parts := parts) hok
    go_wp2
    rw [F.1, F.2]
    exact bodyPost_ret (v := .tuple #[.agg #[.int .i64 0, .int .i64 0], .int .i64 1]) (by simp [results, Try.results24, go_sem, j0, j1]) rfl ⟨rfl, (by repeat (first | exact Below.refl _ _ | assumption | refine Below.drew ?_ | refine below_drewN ?_ _ | refine Below.alloc ?_ (by first | omega | (simp <;> omega)) _ | refine Below.setCell ?_ (by first | omega | (simp <;> omega)) _))⟩
  | true =>
    have Hok := Lib.hid hok
    cases hp : inB 1 1000 parts with
    | false =>
      have F := spt_far (part := part) (parts := parts) hok (by rw [hp]; rfl)
      go_wp2_with (first | (go_at_call 66; with_reducible refine (within_any _ _ _ _).mono ?_; rintro e w' ⟨rfl, rfl⟩))
      rw [F.1, F.2]
      exact bodyPost_ret (v := .tuple #[.agg #[.int .i64 0, .int .i64 0], .int .i64 2]) (by simp [results, Try.results24, go_sem, j0, j1]) rfl ⟨rfl, (by repeat (first | exact Below.refl _ _ | assumption | refine Below.drew ?_ | refine below_drewN ?_ _ | refine Below.alloc ?_ (by first | omega | (simp <;> omega)) _ | refine Below.setCell ?_ (by first | omega | (simp <;> omega)) _))⟩
    | true =>
      cases hq : inB 0 parts part with
      | false =>
        have F := spt_far (part := part) (parts := parts) hok (by rw [hp, hq]; rfl)
        go_wp2_with (first | (go_at_call 66; with_reducible refine (within_any _ _ _ _).mono ?_; rintro e w' ⟨rfl, rfl⟩))
        rw [F.1, F.2]
        exact bodyPost_ret (v := .tuple #[.agg #[.int .i64 0, .int .i64 0], .int .i64 2]) (by simp [results, Try.results24, go_sem, j0, j1]) rfl ⟨rfl, (by repeat (first | exact Below.refl _ _ | assumption | refine Below.drew ?_ | refine below_drewN ?_ _ | refine Below.alloc ?_ (by first | omega | (simp <;> omega)) _ | refine Below.setCell ?_ (by first | omega | (simp <;> omega)) _))⟩
      | true =>
        have F := Lib.hid (spt_ok hok hp hq)
        obtain ⟨g1, g2⟩ := inB_iff.1 hp
        obtain ⟨g3, g4⟩ := inB_iff.1 hq
        have hr := HR.out.on hB
        have k0 := K0.cell 0
        simp only [List.getElem?_toArray, List.getElem?_cons_zero] at k0
        go_wp2_with (first | (go_at_call 66; with_reducible refine (within_any _ _ _ _).mono ?_; rintro e w' ⟨rfl, rfl⟩))
        have HB := Lib.hid hB
        clear hok hp hq hr
        go_region_held3 (fun w' => w'.cell? ⟨w.heap.size, 0, none⟩ = some (.slice A n c) ∧ Below w.heap.size w w')
          (first | exact ⟨k0, HB.out.drew⟩ | (go_split_ands; (first | (exact ⟨cell_on2 hbw3 ‹_›, below_app ‹_› hbw3 (Below.size ‹_›)⟩) | (exact ⟨cell_on2 hbw2 ‹_›, below_app ‹_› hbw2 (Below.size ‹_›)⟩) | (refine ⟨?_, ?_⟩; (exact (World.cell?_setCell_other _ _ _ _ (by intro hq; have := congrArg Addr.block hq; simp only at this; omega)).trans ((World.cell?_setCell_other _ _ _ _ (by intro hq; have := congrArg Addr.block hq; simp only at this; omega)).trans k3)); (exact (hB3.setCell (by simp only; omega) _).setCell (by simp only; omega) _)))))
          (first | (go_at_call 72; with_reducible refine (arcsOf_any _ _ _ xs _ (HR.out.on HB.out.drew) Hok.out).mono ?_; rintro e w2 ⟨A2, c2, rfl, o2, hbw2⟩) | (go_at_call 71; with_reducible refine (spotAt_any _ _ _ xs _ _ part parts _ (HR.out.on (below_app HB.out.drew hbw2 (by have := HB.out.size; simpa using this))) (RdL.of_own (by rw [arcsN_len]) o2) Hok.out g3 g4 g1 g2).mono ?_; rintro e w3 ⟨rfl, hbw3⟩; obtain ⟨j0, j1, f0, f1, zr⟩ := ((R0.drew.on hbw2).on hbw3).two; have k3 := cell_on2 hbw3 (K0.drew.on hbw2).cel.cell; have hB3 : Below w.heap.size w w3 := below_app (below_app HB.out.drew hbw2 HB.out.drew.size) hbw3 (HB.out.drew.trans (hbw2.mono HB.out.drew.size)).size))
        go_split_ands
        go_wp2
        rw [F.out.1, F.out.2]
        exact bodyPost_ret (v := .tuple #[.agg #[.int .i64 (spotV xs part parts).1, .int .i64 (spotV xs part parts).2], .int .i64 0]) (by simp [results, Try.results24, go_sem, j0, j1]) rfl ⟨rfl, (by repeat (first | exact Below.refl _ _ | assumption | refine Below.drew ?_ | refine below_drewN ?_ _ | refine Below.alloc ?_ (by first | omega | (simp <;> omega)) _ | refine Below.setCell ?_ (by first | omega | (simp <;> omega)) _))⟩
set_option maxRecDepth 100000 in
set_option maxHeartbeats 8000000 in
theorem sSpotAt_any (A : Option Addr) (n c : Nat) (xs : List T3) (part parts : Int) (w : World) (hr : RdL c3 3 w w.heap.size A n c xs) (hn : n ≤ 1048576) :
    Calls Try.prog 23 #[.agg #[.slice A n c], .int .i64 part, .int .i64 parts] w fun e w' => e = .returned (.tuple #[.agg #[.int .i64 (sptV xs part parts).1, .int .i64 (sptV xs part parts).2], .int .i64 (sptE xs part parts)]) ∧ Below w.heap.size w w' := by
  have K0 : Blk ((w.alloc (.cells #[.slice A n c] 28)).alloc (.cells #[.int .i64 0, .int .i64 0] 38)) w.heap.size 28 #[.slice A n c] := (Blk.new _ _ _).alloc _
  have R0 : Blk ((w.alloc (.cells #[.slice A n c] 28)).alloc (.cells #[.int .i64 0, .int .i64 0] 38)) (w.heap.size + 1) 38 #[.int .i64 0, .int .i64 0] := by have h := Blk.new (w.alloc (.cells #[.slice A n c] 28)) 38 #[.int .i64 0, .int .i64 0]; simpa using h
  have hB : Below w.heap.size w ((w.alloc (.cells #[.slice A n c] 28)).alloc (.cells #[.int .i64 0, .int .i64 0] 38)) := (by repeat (first | exact Below.refl _ _ | assumption | refine Below.drew ?_ | refine below_drewN ?_ _ | refine Below.alloc ?_ (by first | omega | (simp <;> omega)) _ | refine Below.setCell ?_ (by first | omega | (simp <;> omega)) _))
  have HR := Lib.hid hr
  have hl := Lib.hid hr.len
  go_enter Try.func23, Try.ntmps23
  go_wp2_with fail
  generalize (w.alloc (.cells #[.slice A n c] 28)).alloc (.cells #[.int .i64 0, .int .i64 0] 38) = v at *
  with_reducible refine (l02Stroke_any _ _ _ xs _ _ _ K0 (hr.on hB) hn).mono ?_
  rintro e w1 ⟨rfl, hbw1⟩
  replace R0 := R0.on hbw1
  replace K0 := K0.on hbw1
  replace hB := below_on hbw1 hB
  clear hr hbw1
  obtain ⟨j0, j1, f0, f1, zr⟩ := R0.two
  cases hok : strokeB xs with
  | false =>
    have F := spt_bad (part := part) (parts := parts) hok
    go_wp2
    rw [F.1, F.2]
    exact bodyPost_ret (v := .tuple #[.agg #[.int .i64 0, .int .i64 0], .int .i64 1]) (by simp [results, Try.results23, go_sem, j0, j1]) rfl ⟨rfl, (by repeat (first | exact Below.refl _ _ | assumption | refine Below.drew ?_ | refine below_drewN ?_ _ | refine Below.alloc ?_ (by first | omega | (simp <;> omega)) _ | refine Below.setCell ?_ (by first | omega | (simp <;> omega)) _))⟩
  | true =>
    have Hok := Lib.hid hok
    cases hp : inB 1 1000 parts with
    | false =>
      have F := spt_far (part := part) (parts := parts) hok (by rw [hp]; rfl)
      go_wp2_with (first | (go_at_call 64; with_reducible refine (l00In_any _ _ _ _).mono ?_; rintro e w' ⟨rfl, rfl⟩))
      rw [F.1, F.2]
      exact bodyPost_ret (v := .tuple #[.agg #[.int .i64 0, .int .i64 0], .int .i64 2]) (by simp [results, Try.results23, go_sem, j0, j1]) rfl ⟨rfl, (by repeat (first | exact Below.refl _ _ | assumption | refine Below.drew ?_ | refine below_drewN ?_ _ | refine Below.alloc ?_ (by first | omega | (simp <;> omega)) _ | refine Below.setCell ?_ (by first | omega | (simp <;> omega)) _))⟩
    | true =>
      cases hq : inB 0 parts part with
      | false =>
        have F := spt_far (part := part) (parts := parts) hok (by rw [hp, hq]; rfl)
        go_wp2_with (first | (go_at_call 64; with_reducible refine (l00In_any _ _ _ _).mono ?_; rintro e w' ⟨rfl, rfl⟩))
        rw [F.1, F.2]
        exact bodyPost_ret (v := .tuple #[.agg #[.int .i64 0, .int .i64 0], .int .i64 2]) (by simp [results, Try.results23, go_sem, j0, j1]) rfl ⟨rfl, (by repeat (first | exact Below.refl _ _ | assumption | refine Below.drew ?_ | refine below_drewN ?_ _ | refine Below.alloc ?_ (by first | omega | (simp <;> omega)) _ | refine Below.setCell ?_ (by first | omega | (simp <;> omega)) _))⟩
      | true =>
        have F := Lib.hid (spt_ok hok hp hq)
        obtain ⟨g1, g2⟩ := inB_iff.1 hp
        obtain ⟨g3, g4⟩ := inB_iff.1 hq
        have hr := HR.out.on hB
        go_wp2_with (first | (go_at_call 64; with_reducible refine (l00In_any _ _ _ _).mono ?_; rintro e w' ⟨rfl, rfl⟩))
        with_reducible refine (l06Arcs_any _ _ _ xs _ _ _ K0 hr Hok.out).mono ?_
        rintro e w2 ⟨A2, c2, rfl, o2, hbw2⟩
        replace hr := hr.on hbw2
        replace R0 := R0.on hbw2
        replace K0 := K0.on hbw2
        replace hB := below_on hbw2 hB
        clear j0 j1 f0 f1 zr hok hp hq
        go_wp2_with fail
        with_reducible refine (l06At_any _ _ _ xs _ _ part parts _ _ _ K0.cel hr (RdL.of_own (by rw [arcsN_len]) o2) Hok.out g3 g4 g1 g2).mono ?_
        rintro e w3 ⟨rfl, hbw3⟩
        replace R0 := R0.on hbw3
        replace hB := below_on hbw3 hB
        obtain ⟨j0, j1, f0, f1, zr⟩ := R0.two
        go_wp2
        rw [F.out.1, F.out.2]
        exact bodyPost_ret (v := .tuple #[.agg #[.int .i64 (spotV xs part parts).1, .int .i64 (spotV xs part parts).2], .int .i64 0]) (by simp [results, Try.results23, go_sem, j0, j1]) rfl ⟨rfl, (by repeat (first | exact Below.refl _ _ | assumption | refine Below.drew ?_ | refine below_drewN ?_ _ | refine Below.alloc ?_ (by first | omega | (simp <;> omega)) _ | refine Below.setCell ?_ (by first | omega | (simp <;> omega)) _))⟩
end Go.Proofs.Ytpmaiklooapnfaa
