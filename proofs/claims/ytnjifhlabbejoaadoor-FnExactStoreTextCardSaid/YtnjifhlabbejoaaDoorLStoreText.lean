/- The law of StoreText returns true for every input: the program's StoreText and the reference's return the same. No condition beyond what the card ties: the tables of the library hold what its text lays in them. -/
import Derived.Test.YtnjifhlabbejoaaDoorTs
import Derived.Test.YtnjifhlabbejoaaDoorBv
import Derived.Test.YtnjifhlabbejoaaDoorGn
import Derived.Test.YtnjifhlabbejoaaDoorAr
import Derived.Test.YtnjifhlabbejoaaDoorCards
import Derived.Test.YtnjifhlabbejoaaDoorTie
import Derived.ProofKit
import Derived.LaidMore
import Derived.OpenShut
import Derived.Stop.Joined
import Derived.SevenTiedAt
import Derived.Lib.LaidTab
import Derived.Stop.LaidErr
import Derived.Deep.RegionHeld3
import Derived.ChangeOld
namespace Go.Proofs.YtnjifhlabbejoaaDoor
open Go.ChangeShapes Go.WideShapes Go.ChangeAt Go.RowKit
namespace fnExactStoreText
set_option linter.unusedVariables false
theorem walk (z0 : Int) (A0 : Option Addr) (n0 cp0 : Nat) (xs0 : List TV) (w : World) (r0 : TL w w.heap.size A0 n0 cp0 xs0) (g0 : ∀ x ∈ xs0, (∀ q ∈ x.2, ok3 q) ∧ x.1.size ≤ maxLen) (gz0 : I64 z0) (ht : TabD w) :
    Calls Tryd.prog 5 #[.agg #[.int .i64 z0, .slice A0 n0 cp0]] w fun e w' => e = .returned (.bool true) ∧ Below w.heap.size w w' := by
  have m0 : n0 ≤ 9223372036854775807 := Nat.le_trans r0.cap r0.capm
  by_cases hbig : totT xs0 ≤ 1048576
  · have htotT_xs0 : totT xs0 ≤ 1048576 := by omega
    go_enter Tryd.func5, Tryd.ntmps5
    go_wp2_with fail
    have B0 : Below w.heap.size w (w.alloc (.cells #[.int .i64 z0, .slice A0 n0 cp0] 35)) := (by repeat (first | exact Below.refl _ _ | assumption | refine Below.drew ?_ | refine below_drewN ?_ _ | refine Below.alloc ?_ (by first | omega | (simp <;> omega)) _ | refine Below.setCell ?_ (by first | omega | (simp <;> omega)) _))
    have P0 : Blk (w.alloc (.cells #[.int .i64 z0, .slice A0 n0 cp0] 35)) (w.heap.size) 35 #[.int .i64 z0, .slice A0 n0 cp0] := by have hk := Blk.new w 35 #[.int .i64 z0, .slice A0 n0 cp0]; simpa using hk
    generalize (w.alloc (.cells #[.int .i64 z0, .slice A0 n0 cp0] 35)) = v at *
    have Bv : Below v.heap.size v v := Below.refl _ _
    have zv := B0.size
    with_reducible refine (szStore_yes z0 _ _ _ xs0 _ _ (r0.on B0) (fun x hx => (g0 x hx).2) (by omega) (by omega) (by omega)).mono ?_
    rintro e w1 ⟨rfl, hbw1⟩
    have zw1 := hbw1.size
    replace B0 := below_on hbw1 B0
    replace Bv := below_on hbw1 Bv
    have hzl : (0 : Int) ≤ 1048576 - (totT xs0 : Int) := by omega
    have kk0 := (P0.on Bv)
    have kc0_0 := kk0.cell 0
    have kc0_1 := kk0.cell 1
    simp only [List.getElem?_toArray, List.getElem?_cons_succ, List.getElem?_cons_zero] at kc0_0 kc0_1
    have kz0 := kk0.lt
    go_wp2_with fail
    clear kk0 kz0 kc0_0 kc0_1
    with_reducible refine (toStore_any z0 A0 n0 cp0 xs0 _ (r0.on B0) htotT_xs0).mono ?_
    rintro e w2 ⟨qw2, sw2, rfl, ow2, lw2, uw2, dw2, hbw2⟩
    have zw2 := hbw2.size
    replace B0 := below_on hbw2 B0
    replace Bv := below_on hbw2 Bv
    have Bw2 : Below w2.heap.size w2 w2 := Below.refl _ _
    go_wp2_with fail
    with_reducible refine (sStoreText_any z0 _ _ _ xs0 _ ((tl_own ow2 lw2 r0.len uw2).on Bw2) htotT_xs0).mono ?_
    rintro e w3 ⟨rfl, hbw3⟩
    have zw3 := hbw3.size
    replace B0 := below_on hbw3 B0
    replace Bv := below_on hbw3 Bv
    replace Bw2 := below_on hbw3 Bw2
    clear Bw2
    have kk0 := (P0.on Bv)
    have kc0_0 := kk0.cell 0
    have kc0_1 := kk0.cell 1
    simp only [List.getElem?_toArray, List.getElem?_cons_succ, List.getElem?_cons_zero] at kc0_0 kc0_1
    have kz0 := kk0.lt
    go_wp2_with fail
    clear kk0 kz0 kc0_0 kc0_1
    with_reducible refine (toStore_any z0 A0 n0 cp0 xs0 _ (r0.on B0) htotT_xs0).mono ?_
    rintro e w4 ⟨qw4, sw4, rfl, ow4, lw4, uw4, dw4, hbw4⟩
    have zw4 := hbw4.size
    replace B0 := below_on hbw4 B0
    replace Bv := below_on hbw4 Bv
    have Bw4 : Below w4.heap.size w4 w4 := Below.refl _ _
    go_wp2_with fail
    generalize hW : w4.alloc (.cells #[.int .i64 z0, .slice (some ⟨qw4, 0, none⟩) n0 n0] 40) = w5
    have hbw5 : Below w4.heap.size w4 w5 := by rw [← hW]; exact (Below.refl _ _).alloc (Nat.le_refl _) _
    have Jw5 : Blk w5 w4.heap.size 40 #[.int .i64 z0, .slice (some ⟨qw4, 0, none⟩) n0 n0] := by rw [← hW]; exact Blk.new _ _ _
    clear hW
    have zw5 := hbw5.size
    replace B0 := below_on hbw5 B0
    replace Bv := below_on hbw5 Bv
    replace Bw4 := below_on hbw5 Bw4
    have Bw5 : Below w5.heap.size w5 w5 := Below.refl _ _
    have kk0 := (Jw5.on Bw5)
    have kc0_0 := kk0.cell 0
    have kc0_1 := kk0.cell 1
    simp only [List.getElem?_toArray, List.getElem?_cons_succ, List.getElem?_cons_zero] at kc0_0 kc0_1
    have kz0 := kk0.lt
    go_wp2_with fail
    clear kk0 kz0 kc0_0 kc0_1
    with_reducible refine (iStoreText_any z0 _ _ _ xs0 _ ((tl_own ow4 lw4 r0.len uw4).on Bw4) htotT_xs0 (ht.on B0)).mono ?_
    rintro e w6 ⟨rfl, hbw6⟩
    have zw6 := hbw6.size
    replace B0 := below_on hbw6 B0
    replace Bv := below_on hbw6 Bv
    replace Bw4 := below_on hbw6 Bw4
    replace Bw5 := below_on hbw6 Bw5
    have kk0 := (P0.on Bv)
    have kc0_0 := kk0.cell 0
    have kc0_1 := kk0.cell 1
    simp only [List.getElem?_toArray, List.getElem?_cons_succ, List.getElem?_cons_zero] at kc0_0 kc0_1
    have kz0 := kk0.lt
    have kk1 := (Jw5.on Bw5)
    have kc1_0 := kk1.cell 0
    have kc1_1 := kk1.cell 1
    simp only [List.getElem?_toArray, List.getElem?_cons_succ, List.getElem?_cons_zero] at kc1_0 kc1_1
    have kz1 := kk1.lt
    go_wp2_with fail
    replace B0 := Below.drew B0
    replace Bv := Below.drew Bv
    replace Bw4 := Below.drew Bw4
    replace Bw5 := Below.drew Bw5
    go_region_held3 (fun w' => (∀ b o, b < w6.heap.size → w'.cell? ⟨b, o, none⟩ = w6.cell? ⟨b, o, none⟩) ∧ Below w6.heap.size w6 w') (first | exact sk (Below.refl _ _).drew | (go_split_ands; first | exact sk (below_app ‹_› hbw7 (Below.size ‹_›)) | exact sk (below_app ‹_› hbw8 (Below.size ‹_›)))) (first | (go_at_call 17; with_reducible refine (toStore_any z0 A0 n0 cp0 xs0 _ (r0.on B0) htotT_xs0).mono ?_; rintro e w7 ⟨qw7, sw7, rfl, ow7, lw7, uw7, dw7, hbw7⟩; have zw7 := hbw7.size; rw [hs_drew] at zw7; replace B0 := below_on hbw7 B0; replace Bv := below_on hbw7 Bv; replace Bw4 := below_on hbw7 Bw4; replace Bw5 := below_on hbw7 Bw5; have Bw7 : Below w7.heap.size w7 w7 := Below.refl _ _) | (go_at_call 19; with_reducible refine (eqStore_yes z0 _ _ _ _ _ _ xs0 _ ((tl_own ow4 lw4 r0.len uw4).on Bw4) ((tl_own ow7 lw7 r0.len uw7).on Bw7) htotT_xs0).mono ?_; rintro e w8 ⟨rfl, hbw8⟩; have zw8 := hbw8.size; replace B0 := below_on hbw8 B0; replace Bv := below_on hbw8 Bv; replace Bw4 := below_on hbw8 Bw4; replace Bw5 := below_on hbw8 Bw5; replace Bw7 := below_on hbw8 Bw7))
    clear kk0 kz0 kc0_0 kc0_1 kk1 kz1 kc1_0 kc1_1
    go_split_ands
    go_wp2
    go_ret
    exact ⟨rfl, B0⟩
  · go_enter Tryd.func5, Tryd.ntmps5
    go_wp2_with fail
    have B0 : Below w.heap.size w (w.alloc (.cells #[.int .i64 z0, .slice A0 n0 cp0] 35)) := (by repeat (first | exact Below.refl _ _ | assumption | refine Below.drew ?_ | refine below_drewN ?_ _ | refine Below.alloc ?_ (by first | omega | (simp <;> omega)) _ | refine Below.setCell ?_ (by first | omega | (simp <;> omega)) _))
    have P0 : Blk (w.alloc (.cells #[.int .i64 z0, .slice A0 n0 cp0] 35)) (w.heap.size) 35 #[.int .i64 z0, .slice A0 n0 cp0] := by have hk := Blk.new w 35 #[.int .i64 z0, .slice A0 n0 cp0]; simpa using hk
    generalize (w.alloc (.cells #[.int .i64 z0, .slice A0 n0 cp0] 35)) = v at *
    have Bv : Below v.heap.size v v := Below.refl _ _
    have zv := B0.size
    with_reducible refine (szStore_no z0 _ _ _ xs0 _ _ (r0.on B0) (fun x hx => (g0 x hx).2) (by omega) (by omega) (by omega)).mono ?_
    rintro e w1 ⟨rfl, hbw1⟩
    have zw1 := hbw1.size
    replace B0 := below_on hbw1 B0
    replace Bv := below_on hbw1 Bv
    go_wp2
    go_ret
    exact ⟨rfl, B0⟩

/-! ### From the walk to the statement -/
def laid3 : List (String × DataW Unit) := [("math/bits.deBruijn32tab", Rows.laid_math_bits_deBruijn32tab), ("math/bits.deBruijn64tab", Rows.laid_math_bits_deBruijn64tab), ("internal/strconv.uint64pow10", Rows.laid_internal_strconv_uint64pow10)]
theorem door_met (os : Os) (args : Array Value) : laidMetH Tryd.prog laid3 ((World.doorLaid Tryd.prog 72 os).forCall (fun _ _ => 0) ⟨#[], args, []⟩).memory :=
  laidMetH_of_parts3 (fuel := 8) (laidMet_of_run' 8 (by kernel_rfl) (by kernel_rfl)) (by kernel_rfl) (by kernel_rfl)
theorem of_laid {W : World} (h : laidMetH Tryd.prog laid3 W) : TabD W := by
  rw [MakeChecks.laidMetH_plain _ _ _ (by kernel_rfl)] at h
  have h3 := laidMet.tail (laidMet.tail h)
  exact Lib.tabIs_of_head (t := 125) (e := 113) (n := 20) (g := 1) (by kernel_rfl) (by kernel_rfl) (by kernel_rfl) (by kernel_rfl) (by kernel_rfl) (by kernel_rfl) h3
set_option maxRecDepth 100000 in
theorem lifted (os : Os) (started : os.Started) (H : Type) (enc : TypeId × Value → H) :
    ReturnsInHanded {} Tryd.checked os 5 .any (fun w args => (Rows.fnExactStoreTextSpec.pre enc Tryd.prog Tryd.f5 [] false w args ∧ laidMetH Tryd.prog laid3 w) ∧ sizedMet enc Tryd.prog Tryd.f5 (OpenSpec.ofChange Rows.fnExactStoreTextSpec) false w args) (Rows.fnExactStoreTextSpec.post enc Tryd.prog Tryd.f5 false true false false) := by
  refine returnsInHanded_of_change_and (C := Tryd.checked) (X := fun w _ => laidMetH Tryd.prog laid3 w) (fun _ _ _ hh h => h.of_heap hh) Tryd.own started (by kernel_rfl) Tryd.func5
    (ChangeSpec.witness_shaped (enc := enc) (C := Tryd.checked) (os := os) (X := fun w _ => laidMetH Tryd.prog laid3 w) false (World.doorLaid Tryd.prog 72 os) #[.agg #[.int .i64 0, .slice none 0 0]] 8 rfl (World.shaped_of_RefB (by kernel_rfl) (by kernel_rfl)) (by kernel_rfl) (by kernel_rfl) (by kernel_rfl) (door_met os _)) ?_
  intro W base args ds gs before hval0 hW _ _ hL _
  have hval : ∀ (j : Nat) t v, Tryd.f5.params[j]? = some t → args[j]? = some v → Value.okWide Tryd.prog W .any base t v := hval0
  have hW' := hW
  obtain ⟨p, q, hA0, hV, rfl, hfz, hnd⟩ := hW
  have hA : DataW.TrodAll enc Tryd.prog W 0 (fun _ => true) true Tryd.f5.params.toList args.toList ds p := hA0
  rw [Tryd.params5] at hA hval
  obtain ⟨v0, vs0, d0, ds0, p0, q0, hargs, rfl, rfl, h0, tr0⟩ := trodAll_cons hA
  obtain ⟨rfl, rfl, rfl⟩ := trodAll_nil tr0
  obtain rfl : args = #[v0] := by cases args; simp_all
  obtain ⟨rfl, rfl⟩ := trodVars_none hV
  have k0 := h0
  have lt0 : ∀ x ∈ p0, x.block < W.heap.size := by obtain ⟨m, hm⟩ := k0; exact DataW.trod_lt m _ _ _ hm
  obtain ⟨z0, A0, n0, cp0, xs0, rfl, r0, g0, gz0⟩ := opStore (hval 0 35 v0 rfl rfl) h0
  clear hA0 hval0
  refine (walk z0 A0 n0 cp0 xs0 W r0 g0 gz0 (of_laid hL)).mono fun e W' ⟨he, bel⟩ => ?_
  subst he
  exact ⟨_, rfl, _, _, _, [], _, [], hW', trodAll_mk1 (shut_bool Tryd.underlying4 _), (trodAll_cons_mk (Below.trod Tryd.laidOut (by kernel_rfl) (of_decide_eq_true (by kernel_rfl)) k0 bel lt0) trodAll_mk0), rfl, bel.frame _, fun h => by cases h⟩

theorem over : Rows.fnExactStoreTextRow.holds Tryd.pinned (OpenSpec.ofChange Rows.fnExactStoreTextSpec) :=
  OpenClaim.holds_of_wide 5 Tryd.f5 rfl rfl rfl rfl rfl rfl rfl ⟨rfl, rfl, rfl, rfl, rfl⟩ rfl rfl rfl rfl rfl (by kernel_rfl) Tryd.func5 (by kernel_rfl)
    (of_decide_eq_true (by kernel_rfl)) (by unfold Func.isWrapper; first | (rw [if_pos (by decide +kernel)]; kernel_rfl) | (rw [if_neg (by decide +kernel)]; exact ⟨rfl, rfl⟩))
    (fun os started H enc _ => lifted os started H enc)

/-- The card. -/
theorem proved : Rows.FnExactStoreTextCardSaid :=
  Claim7.holds_tied_plain_at .later [] [.data, .data, .data] true (true, "71e0c3e69f39d18281860b296be04c8bbae8ea44f794866ae4ec102bc20808ae") true
    over (fun _ h => by cases h) (by kernel_rfl) (fun _ h => by cases h) fnExactStoreText_row_tie rfl ⟨rfl, rfl⟩ (by kernel_rfl) rfl
    (fun f fn hf hfn => by
      obtain rfl : f = 5 := Option.some.inj ((show Tryd.prog.funcNamed "loop.example/g00918/laws.FnExactStoreText" = some 5 by kernel_rfl).symm.trans hf) |>.symm
      obtain rfl : fn = Tryd.f5 := (Option.some.inj (Tryd.func5.symm.trans hfn)).symm
      exact ⟨by kernel_rfl, fun j t ht => by
        rw [Tryd.params5] at ht
        have hm : t ∈ [35] := by simpa using Array.mem_of_getElem? ht
        have hall : ([35].all fun u => !Tryd.prog.wantsStandIn u) = true := by kernel_rfl
        exact (show Tryd.prog.wantsStandIn t = false by simpa using List.all_eq_true.1 hall t hm)⟩)
    (by kernel_rfl)
end fnExactStoreText
end Go.Proofs.YtnjifhlabbejoaaDoor
