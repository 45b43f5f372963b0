/- The law of Vote returns true for every input: the program's Vote and the reference's return the same. No condition: every argument that can be read. -/
import Derived.Test.YtkldejbhhbgefaaTm
import Derived.Test.YtkldejbhhbgefaaVf
import Derived.Test.YtkldejbhhbgefaaGn
import Derived.Test.YtkldejbhhbgefaaAr
import Derived.ProofKit
import Derived.Deep.RegionHeld3
import Derived.ChangeOld
namespace Go.Proofs.Ytkldejbhhbgefaa
open Go.ChangeShapes Go.WideShapes Go.ChangeAt Go.RowKit
namespace fnExactVote
set_option linter.unusedVariables false
theorem walk (z0 : Int) (A0 : Option Addr) (n0 cp0 : Nat) (xs0 : List TV) (A1 : Option Addr) (n1 cp1 : Nat) (xs1 : List T3) (a2 : Int) (w : World) (r0 : TL w w.heap.size A0 n0 cp0 xs0) (g0 : ∀ x ∈ xs0, (∀ q ∈ x.2, ok3 q) ∧ x.1.size ≤ maxLen) (gz0 : I64 z0) (r1 : RdL c3 3 w w.heap.size A1 n1 cp1 xs1) (g1 : ∀ x ∈ xs1, ok3 x) (g2 : I64 a2) :
    Calls Try.prog 6 #[.agg #[.int .i64 z0, .slice A0 n0 cp0], .slice A1 n1 cp1, .int .i64 a2] w fun e w' => e = .returned (.bool true) ∧ Below w.heap.size w w' := by
  have m0 : n0 ≤ 9223372036854775807 := Nat.le_trans r0.cap r0.capm
  have m1 : n1 ≤ 9223372036854775807 := Nat.le_trans r1.cap r1.capm
  by_cases hbig : totT xs0 + n1 ≤ 1048576
  · have htotT_xs0 : totT xs0 ≤ 1048576 := by omega
    have hn1 : n1 ≤ 1048576 := by omega
    go_enter Try.func6, Try.ntmps6
    go_wp2_with fail
    have B0 : Below w.heap.size w (w.alloc (.cells #[.int .i64 z0, .slice A0 n0 cp0] 24)) := (by repeat (first | exact Below.refl _ _ | assumption | refine Below.drew ?_ | refine below_drewN ?_ _ | refine Below.alloc ?_ (by first | omega | (simp <;> omega)) _ | refine Below.setCell ?_ (by first | omega | (simp <;> omega)) _))
    have P0 : Blk (w.alloc (.cells #[.int .i64 z0, .slice A0 n0 cp0] 24)) (w.heap.size) 24 #[.int .i64 z0, .slice A0 n0 cp0] := by have hk := Blk.new w 24 #[.int .i64 z0, .slice A0 n0 cp0]; simpa using hk
    generalize (w.alloc (.cells #[.int .i64 z0, .slice A0 n0 cp0] 24)) = v at *
    have Bv : Below v.heap.size v v := Below.refl _ _
    have zv := B0.size
    with_reducible refine (szStore_yes z0 _ _ _ xs0 _ _ (r0.on B0) (fun x hx => (g0 x hx).2) (by omega) (by omega) (by omega)).mono ?_
    rintro e w1 ⟨rfl, hbw1⟩
    have zw1 := hbw1.size
    replace B0 := below_on hbw1 B0
    replace Bv := below_on hbw1 Bv
    go_wp2_with fail
    with_reducible refine (szFeatS_yes _ _ _ _ _ (by omega) (by omega) (by omega) (by omega)).mono ?_
    rintro e w' ⟨rfl, rfl⟩
    have hzl : (0 : Int) ≤ 1048576 - (totT xs0 : Int) - (n1 : Int) := by omega
    have kk0 := (P0.on Bv)
    have kc0_0 := kk0.cell 0
    have kc0_1 := kk0.cell 1
    simp only [List.getElem?_toArray, List.getElem?_cons_succ, List.getElem?_cons_zero] at kc0_0 kc0_1
    have kz0 := kk0.lt
    go_wp2_with fail
    clear kk0 kz0 kc0_0 kc0_1
    with_reducible refine (toStore_any z0 A0 n0 cp0 xs0 _ (r0.on B0) htotT_xs0).mono ?_
    rintro e w2 ⟨qw2, sw2, rfl, ow2, lw2, uw2, dw2, hbw2⟩
    have zw2 := hbw2.size
    replace B0 := below_on hbw2 B0
    replace Bv := below_on hbw2 Bv
    have Bw2 : Below w2.heap.size w2 w2 := Below.refl _ _
    go_wp2_with fail
    with_reducible refine (toFeatS_any A1 n1 cp1 xs1 _ (r1.on B0) hn1).mono ?_
    rintro e w3 ⟨rfl, ow3, hbw3⟩
    have zw3 := hbw3.size
    replace B0 := below_on hbw3 B0
    replace Bv := below_on hbw3 Bv
    replace Bw2 := below_on hbw3 Bw2
    have Bw3 : Below w3.heap.size w3 w3 := Below.refl _ _
    go_wp2_with fail
    with_reducible refine (sVote_any z0 a2 _ _ _ _ _ _ xs0 xs1 _ ((tl_own ow2 lw2 r0.len uw2).on Bw2) ((RdL.of_own r1.len ow3).on Bw3) htotT_xs0 hn1).mono ?_
    rintro e w4 ⟨rfl, hbw4⟩
    have zw4 := hbw4.size
    replace B0 := below_on hbw4 B0
    replace Bv := below_on hbw4 Bv
    replace Bw2 := below_on hbw4 Bw2
    replace Bw3 := below_on hbw4 Bw3
    clear Bw2
    clear Bw3
    have kk0 := (P0.on Bv)
    have kc0_0 := kk0.cell 0
    have kc0_1 := kk0.cell 1
    simp only [List.getElem?_toArray, List.getElem?_cons_succ, List.getElem?_cons_zero] at kc0_0 kc0_1
    have kz0 := kk0.lt
    go_wp2_with fail
    clear kk0 kz0 kc0_0 kc0_1
    with_reducible refine (toStore_any z0 A0 n0 cp0 xs0 _ (r0.on B0) htotT_xs0).mono ?_
    rintro e w5 ⟨qw5, sw5, rfl, ow5, lw5, uw5, dw5, hbw5⟩
    have zw5 := hbw5.size
    replace B0 := below_on hbw5 B0
    replace Bv := below_on hbw5 Bv
    have Bw5 : Below w5.heap.size w5 w5 := Below.refl _ _
    go_wp2_with fail
    generalize hW : w5.alloc (.cells #[.int .i64 z0, .slice (some ⟨qw5, 0, none⟩) n0 n0] 31) = w6
    have hbw6 : Below w5.heap.size w5 w6 := by rw [← hW]; exact (Below.refl _ _).alloc (Nat.le_refl _) _
    have Jw6 : Blk w6 w5.heap.size 31 #[.int .i64 z0, .slice (some ⟨qw5, 0, none⟩) n0 n0] := by rw [← hW]; exact Blk.new _ _ _
    clear hW
    have zw6 := hbw6.size
    replace B0 := below_on hbw6 B0
    replace Bv := below_on hbw6 Bv
    replace Bw5 := below_on hbw6 Bw5
    have Bw6 : Below w6.heap.size w6 w6 := Below.refl _ _
    go_wp2_with fail
    with_reducible refine (toFeatS_any A1 n1 cp1 xs1 _ (r1.on B0) hn1).mono ?_
    rintro e w7 ⟨rfl, ow7, hbw7⟩
    have zw7 := hbw7.size
    replace B0 := below_on hbw7 B0
    replace Bv := below_on hbw7 Bv
    replace Bw5 := below_on hbw7 Bw5
    replace Bw6 := below_on hbw7 Bw6
    have Bw7 : Below w7.heap.size w7 w7 := Below.refl _ _
    have kk0 := (Jw6.on Bw6)
    have kc0_0 := kk0.cell 0
    have kc0_1 := kk0.cell 1
    simp only [List.getElem?_toArray, List.getElem?_cons_succ, List.getElem?_cons_zero] at kc0_0 kc0_1
    have kz0 := kk0.lt
    go_wp2_with fail
    clear kk0 kz0 kc0_0 kc0_1
    with_reducible refine (iVote_any z0 a2 _ _ _ _ _ _ xs0 xs1 _ ((tl_own ow5 lw5 r0.len uw5).on Bw5) ((RdL.of_own r1.len ow7).on Bw7) htotT_xs0 hn1).mono ?_
    rintro e w8 ⟨rfl, hbw8⟩
    have zw8 := hbw8.size
    replace B0 := below_on hbw8 B0
    replace Bv := below_on hbw8 Bv
    replace Bw5 := below_on hbw8 Bw5
    replace Bw6 := below_on hbw8 Bw6
    replace Bw7 := below_on hbw8 Bw7
    have kk0 := (P0.on Bv)
    have kc0_0 := kk0.cell 0
    have kc0_1 := kk0.cell 1
    simp only [List.getElem?_toArray, List.getElem?_cons_succ, List.getElem?_cons_zero] at kc0_0 kc0_1
    have kz0 := kk0.lt
    have kk1 := (Jw6.on Bw6)
    have kc1_0 := kk1.cell 0
    have kc1_1 := kk1.cell 1
    simp only [List.getElem?_toArray, List.getElem?_cons_succ, List.getElem?_cons_zero] at kc1_0 kc1_1
    have kz1 := kk1.lt
    go_wp2_with fail
    replace B0 := Below.drew B0
    replace Bv := Below.drew Bv
    replace Bw5 := Below.drew Bw5
    replace Bw6 := Below.drew Bw6
    replace Bw7 := Below.drew Bw7
    go_region_held3 (fun w' => (∀ b o, b < w8.heap.size → w'.cell? ⟨b, o, none⟩ = w8.cell? ⟨b, o, none⟩) ∧ Below w8.heap.size w8 w') (first | exact sk (Below.refl _ _).drew | (go_split_ands; first | exact sk (below_app ‹_› hbw9 (Below.size ‹_›)) | exact sk (below_app ‹_› hbw10 (Below.size ‹_›)))) (first | (go_at_call 9; with_reducible refine (toStore_any z0 A0 n0 cp0 xs0 _ (r0.on B0) htotT_xs0).mono ?_; rintro e w9 ⟨qw9, sw9, rfl, ow9, lw9, uw9, dw9, hbw9⟩; have zw9 := hbw9.size; rw [hs_drew] at zw9; replace B0 := below_on hbw9 B0; replace Bv := below_on hbw9 Bv; replace Bw5 := below_on hbw9 Bw5; replace Bw6 := below_on hbw9 Bw6; replace Bw7 := below_on hbw9 Bw7; have Bw9 : Below w9.heap.size w9 w9 := Below.refl _ _) | (go_at_call 12; with_reducible refine (eqStore_yes z0 _ _ _ _ _ _ xs0 _ ((tl_own ow5 lw5 r0.len uw5).on Bw5) ((tl_own ow9 lw9 r0.len uw9).on Bw9) htotT_xs0).mono ?_; rintro e w10 ⟨rfl, hbw10⟩; have zw10 := hbw10.size; replace B0 := below_on hbw10 B0; replace Bv := below_on hbw10 Bv; replace Bw5 := below_on hbw10 Bw5; replace Bw6 := below_on hbw10 Bw6; replace Bw7 := below_on hbw10 Bw7; replace Bw9 := below_on hbw10 Bw9))
    clear kk0 kz0 kc0_0 kc0_1 kk1 kz1 kc1_0 kc1_1
    go_split_ands
    go_wp2_with fail
    with_reducible refine (toFeatS_any A1 n1 cp1 xs1 _ (r1.on B0) hn1).mono ?_
    rintro e w11 ⟨rfl, ow11, hbw11⟩
    have zw11 := hbw11.size
    replace B0 := below_on hbw11 B0
    replace Bv := below_on hbw11 Bv
    replace Bw5 := below_on hbw11 Bw5
    replace Bw6 := below_on hbw11 Bw6
    replace Bw7 := below_on hbw11 Bw7
    replace Bw9 := below_on hbw11 Bw9
    have Bw11 : Below w11.heap.size w11 w11 := Below.refl _ _
    go_wp2_with fail
    with_reducible refine (eqFeatS_yes _ _ _ _ _ _ _ _ ((RdL.of_own r1.len ow7).on Bw7) ((RdL.of_own r1.len ow11).on Bw11) hn1).mono ?_
    rintro e w12 ⟨rfl, hbw12⟩
    have zw12 := hbw12.size
    replace B0 := below_on hbw12 B0
    replace Bv := below_on hbw12 Bv
    replace Bw5 := below_on hbw12 Bw5
    replace Bw6 := below_on hbw12 Bw6
    replace Bw7 := below_on hbw12 Bw7
    replace Bw9 := below_on hbw12 Bw9
    replace Bw11 := below_on hbw12 Bw11
    go_wp2
    go_ret
    exact ⟨rfl, B0⟩
  · by_cases hs0 : totT xs0 ≤ 1048576
    · go_enter Try.func6, Try.ntmps6
      go_wp2_with fail
      have B0 : Below w.heap.size w (w.alloc (.cells #[.int .i64 z0, .slice A0 n0 cp0] 24)) := (by repeat (first | exact Below.refl _ _ | assumption | refine Below.drew ?_ | refine below_drewN ?_ _ | refine Below.alloc ?_ (by first | omega | (simp <;> omega)) _ | refine Below.setCell ?_ (by first | omega | (simp <;> omega)) _))
      have P0 : Blk (w.alloc (.cells #[.int .i64 z0, .slice A0 n0 cp0] 24)) (w.heap.size) 24 #[.int .i64 z0, .slice A0 n0 cp0] := by have hk := Blk.new w 24 #[.int .i64 z0, .slice A0 n0 cp0]; simpa using hk
      generalize (w.alloc (.cells #[.int .i64 z0, .slice A0 n0 cp0] 24)) = v at *
      have Bv : Below v.heap.size v v := Below.refl _ _
      have zv := B0.size
      with_reducible refine (szStore_yes z0 _ _ _ xs0 _ _ (r0.on B0) (fun x hx => (g0 x hx).2) (by omega) (by omega) (by omega)).mono ?_
      rintro e w1 ⟨rfl, hbw1⟩
      have zw1 := hbw1.size
      replace B0 := below_on hbw1 B0
      replace Bv := below_on hbw1 Bv
      go_wp2_with fail
      with_reducible refine (szFeatS_no _ _ _ _ _ (by omega) (by omega) (by omega) (by omega)).mono ?_
      rintro e w' ⟨rfl, rfl⟩
      go_wp2
      go_ret
      exact ⟨rfl, B0⟩
    · go_enter Try.func6, Try.ntmps6
      go_wp2_with fail
      have B0 : Below w.heap.size w (w.alloc (.cells #[.int .i64 z0, .slice A0 n0 cp0] 24)) := (by repeat (first | exact Below.refl _ _ | assumption | refine Below.drew ?_ | refine below_drewN ?_ _ | refine Below.alloc ?_ (by first | omega | (simp <;> omega)) _ | refine Below.setCell ?_ (by first | omega | (simp <;> omega)) _))
      have P0 : Blk (w.alloc (.cells #[.int .i64 z0, .slice A0 n0 cp0] 24)) (w.heap.size) 24 #[.int .i64 z0, .slice A0 n0 cp0] := by have hk := Blk.new w 24 #[.int .i64 z0, .slice A0 n0 cp0]; simpa using hk
      generalize (w.alloc (.cells #[.int .i64 z0, .slice A0 n0 cp0] 24)) = v at *
      have Bv : Below v.heap.size v v := Below.refl _ _
      have zv := B0.size
      with_reducible refine (szStore_no z0 _ _ _ xs0 _ _ (r0.on B0) (fun x hx => (g0 x hx).2) (by omega) (by omega) (by omega)).mono ?_
      rintro e w1 ⟨rfl, hbw1⟩
      have zw1 := hbw1.size
      replace B0 := below_on hbw1 B0
      replace Bv := below_on hbw1 Bv
      go_wp2
      go_ret
      exact ⟨rfl, B0⟩

/-! ### From the walk to the statement -/
set_option maxRecDepth 100000 in
theorem lifted (os : Os) (started : os.Started) (H : Type) (enc : TypeId × Value → H) :
    ReturnsInHanded {} Try.checked os 6 .any (Rows.fnExactVoteSpec.pre6 enc Try.prog Try.f6 Rows.fnExactVoteRow.domain false) (Rows.fnExactVoteSpec.post enc Try.prog Try.f6 false true false false) := by
  refine returnsInHanded_of_change (C := Try.checked) Try.own started (by kernel_rfl) Try.func6
    (ChangeSpec.witness6 (enc := enc) (C := Try.checked) false ⟨#[], #[.agg #[.int .i64 0, .slice none 0 0], .slice none 0 0, .int .i64 0], []⟩ 8 (by kernel_rfl) (by kernel_rfl) (by kernel_rfl) (by kernel_rfl)) ?_
  intro W base args ds gs before hval0 hW hcnd _
  have hval : ∀ (j : Nat) t v, Try.f6.params[j]? = some t → args[j]? = some v → Value.okWide Try.prog W .any base t v := hval0
  have hW' := hW
  obtain ⟨p, q, hA0, hV, rfl, hfz, hnd⟩ := hW
  have hA : DataW.TrodAll enc Try.prog W 0 (fun _ => true) true Try.f6.params.toList args.toList ds p := hA0
  rw [Try.params6] at hA hval
  obtain ⟨v0, vs0, d0, ds0, p0, q0, hargs, rfl, rfl, h0, tr0⟩ := trodAll_cons hA
  obtain ⟨v1, vs1, d1, ds1, p1, q1, rfl, rfl, rfl, h1, tr1⟩ := trodAll_cons tr0
  obtain ⟨v2, vs2, d2, ds2, p2, q2, rfl, rfl, rfl, h2, tr2⟩ := trodAll_cons tr1
  obtain ⟨rfl, rfl, rfl⟩ := trodAll_nil tr2
  obtain rfl : args = #[v0, v1, v2] := by cases args; simp_all
  obtain ⟨rfl, rfl⟩ := trodVars_none hV
  have k0 := h0
  have lt0 : ∀ x ∈ p0, x.block < W.heap.size := by obtain ⟨m, hm⟩ := k0; exact DataW.trod_lt m _ _ _ hm
  obtain ⟨z0, A0, n0, cp0, xs0, rfl, r0, g0, gz0⟩ := opStore (hval 0 24 v0 rfl rfl) h0
  have k1 := h1
  have lt1 : ∀ x ∈ p1, x.block < W.heap.size := by obtain ⟨m, hm⟩ := k1; exact DataW.trod_lt m _ _ _ hm
  obtain ⟨A1, n1, cp1, xs1, rfl, r1, g1⟩ := opFeats (hval 1 38 v1 rfl rfl) h1
  have k2 := h2
  have lt2 : ∀ x ∈ p2, x.block < W.heap.size := by obtain ⟨m, hm⟩ := k2; exact DataW.trod_lt m _ _ _ hm
  obtain ⟨a2, rfl, g2⟩ := opI64 (hval 2 2 v2 rfl rfl) h2
  clear hA0 hval0
  refine (walk z0 A0 n0 cp0 xs0 A1 n1 cp1 xs1 a2 W r0 g0 gz0 r1 g1 g2).mono fun e W' ⟨he, bel⟩ => ?_
  subst he
  exact ⟨_, rfl, _, _, _, [], _, [], hW', trodAll_mk1 (shut_bool Try.underlying4 _), (trodAll_cons_mk (Below.trod Try.laidOut (by kernel_rfl) (of_decide_eq_true (by kernel_rfl)) k0 bel lt0) (trodAll_cons_mk (Below.trod Try.laidOut (by kernel_rfl) (of_decide_eq_true (by kernel_rfl)) k1 bel lt1) (trodAll_cons_mk (Below.trod Try.laidOut (by kernel_rfl) (of_decide_eq_true (by kernel_rfl)) k2 bel lt2) trodAll_mk0))), rfl, bel.frame _, fun h => by cases h⟩

theorem over : Rows.fnExactVoteRow.holds Try.pinned (OpenSpec.ofChange Rows.fnExactVoteSpec) :=
  OpenClaim.holds_of_wide 6 Try.f6 rfl rfl rfl rfl rfl rfl rfl ⟨rfl, rfl, rfl, rfl, rfl⟩ rfl rfl rfl rfl rfl (by kernel_rfl) Try.func6 (by kernel_rfl)
    (of_decide_eq_true (by kernel_rfl)) (by unfold Func.isWrapper; first | (rw [if_pos (by decide +kernel)]; kernel_rfl) | (rw [if_neg (by decide +kernel)]; exact ⟨rfl, rfl⟩))
    (fun os started H enc _ => lifted os started H enc)

theorem proved : Rows.FnExactVoteSaid := over
end fnExactVote
end Go.Proofs.Ytkldejbhhbgefaa
