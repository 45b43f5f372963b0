/- The law of ReadFeats returns true for every input: the program's ReadFeats and the reference's return the same. No condition beyond what the card ties: the tables of the library hold what its text lays in them. -/
import Derived.Test.YtnjifhlabbejoaaDoorMk
import Derived.Test.YtnjifhlabbejoaaDoorDx
import Derived.Test.YtnjifhlabbejoaaDoorGn
import Derived.Test.YtnjifhlabbejoaaDoorAr
import Derived.Test.YtnjifhlabbejoaaDoorCards
import Derived.Test.YtnjifhlabbejoaaDoorTie
import Derived.ProofKit
import Derived.LaidMore
import Derived.OpenShut
import Derived.Stop.Joined
import Derived.SevenTiedAt
import Derived.Lib.LaidTab
import Derived.Stop.LaidErr
import Derived.Deep.RegionHeld3
import Derived.Lay
import Derived.LaidOnce
import Derived.HandedShaped
import Derived.Shelf.Vars
import Derived.ChangeOld
namespace Go.Proofs.YtnjifhlabbejoaaDoor
open Go.ChangeShapes Go.WideShapes Go.ChangeAt Go.RowKit
namespace fnExactReadFeats
set_option linter.unusedVariables false
theorem walk (s0 : ByteArray) (w : World) (g0 : s0.size ≤ maxLen) (ht : RdW w) :
    Calls Tryd.prog 3 #[.string s0] w fun e w' => e = .returned (.bool true) ∧ Below w.heap.size w w' := by
  have hs := g0
  unfold maxLen at hs
  by_cases hbig : s0.size ≤ 1048576
  · obtain ⟨b, hb⟩ : ∃ b, rfB s0 = b := ⟨_, rfl⟩
    have HSP := Lib.hid (fun w => sReadFeats_any s0 w hbig)
    have HIM := Lib.hid (fun w h => iReadFeats_any s0 w hbig h)
    rw [hb] at HSP HIM
    have HT := Lib.hid ht
    clear ht hb
    go_enter Tryd.func3, Tryd.ntmps3
    have B0 : Below w.heap.size w w := Below.refl _ _
    go_wp2_with fail
    with_reducible refine (HSP.out _).mono ?_
    rintro e w1 ⟨Aw1, nw1, cw1, rfl, ow1, lw1, pw1, hbw1⟩
    have zw1 := hbw1.size
    replace B0 := below_on hbw1 B0
    have Bw1 : Below w1.heap.size w1 w1 := Below.refl _ _
    go_wp2_with fail
    with_reducible refine (HIM.out _ (HT.out.on B0)).mono ?_
    rintro e w2 ⟨Aw2, nw2, cw2, rfl, ow2, lw2, pw2, hbw2⟩
    have zw2 := hbw2.size
    replace B0 := below_on hbw2 B0
    replace Bw1 := below_on hbw2 Bw1
    have Bw2 : Below w2.heap.size w2 w2 := Below.refl _ _
    go_wp2_with fail
    with_reducible refine (eqFeatS_yes _ _ _ _ _ _ _ _ ((RdL.of_own lw2 ow2).on Bw2) ((RdL.of_own lw1 ow1).on Bw1) pw2).mono ?_
    rintro e w3 ⟨rfl, hbw3⟩
    have zw3 := hbw3.size
    replace B0 := below_on hbw3 B0
    replace Bw1 := below_on hbw3 Bw1
    replace Bw2 := below_on hbw3 Bw2
    go_wp2_with fail
    with_reducible refine (markFeatS_any _ _ _ _ _ _ _ (own_below ow2 Bw2) pw2 (by omega) (by omega)).mono ?_
    rintro e w4 ⟨rfl, ow4, hgw4⟩
    have zw4 := hgw4.size
    replace B0 := B0.grown hgw4 B0.size (fun q hq => by have := (ow2).lt q hq; omega)
    replace Bw1 := Bw1.grown hgw4 Bw1.size (fun q hq => by have := (ow2).lt q hq; omega)
    clear Bw2
    have Bw4 : Below w4.heap.size w4 w4 := Below.refl _ _
    go_wp2_with fail
    with_reducible refine (heldFeatS_any _ _ _ _ _ ((RdL.of_own (marks3_len _ _) ow4).on Bw4) pw2 (by omega) (by omega)).mono ?_
    rintro e w5 ⟨rfl, hbw5⟩
    have zw5 := hbw5.size
    replace B0 := below_on hbw5 B0
    replace Bw1 := below_on hbw5 Bw1
    replace Bw4 := below_on hbw5 Bw4
    go_wp2_with fail
    with_reducible refine (HIM.out _ (HT.out.on B0)).mono ?_
    rintro e w6 ⟨Aw6, nw6, cw6, rfl, ow6, lw6, pw6, hbw6⟩
    have zw6 := hbw6.size
    replace B0 := below_on hbw6 B0
    replace Bw1 := below_on hbw6 Bw1
    replace Bw4 := below_on hbw6 Bw4
    have Bw6 : Below w6.heap.size w6 w6 := Below.refl _ _
    go_wp2_with fail
    with_reducible refine (eqFeatS_yes _ _ _ _ _ _ _ _ ((RdL.of_own lw6 ow6).on Bw6) ((RdL.of_own lw1 ow1).on Bw1) pw6).mono ?_
    rintro e w7 ⟨rfl, hbw7⟩
    have zw7 := hbw7.size
    replace B0 := below_on hbw7 B0
    replace Bw1 := below_on hbw7 Bw1
    replace Bw4 := below_on hbw7 Bw4
    replace Bw6 := below_on hbw7 Bw6
    go_wp2_with fail
    with_reducible refine (heldFeatS_any _ _ _ _ _ ((RdL.of_own (marks3_len _ _) ow4).on Bw4) pw2 (by omega) (by omega)).mono ?_
    rintro e w8 ⟨rfl, hbw8⟩
    have zw8 := hbw8.size
    replace B0 := below_on hbw8 B0
    replace Bw1 := below_on hbw8 Bw1
    replace Bw4 := below_on hbw8 Bw4
    replace Bw6 := below_on hbw8 Bw6
    go_wp2
    go_ret
    exact ⟨rfl, B0⟩
  · go_enter Tryd.func3, Tryd.ntmps3
    go_wp2
    go_ret
    exact ⟨rfl, Below.refl _ _⟩

/-! ### From the walk to the statement -/
def laid7 : List (String × DataW Unit) := [("math/bits.deBruijn32tab", Rows.laid_math_bits_deBruijn32tab), ("math/bits.deBruijn64tab", Rows.laid_math_bits_deBruijn64tab), ("internal/strconv.uint64pow10", Rows.laid_internal_strconv_uint64pow10), ("unicode/utf8.acceptRanges", Rows.laid_unicode_utf8_acceptRanges), ("strconv.ErrRange", Rows.laid_strconv_ErrRange), ("strconv.ErrSyntax", Rows.laid_strconv_ErrSyntax), ("unicode/utf8.first", Rows.laid_unicode_utf8_first)]
theorem row_error (u : TypeId) (h : Tryd.prog.typeName? 3 u = some "*errors.errorString") : u = 151 :=
  typeName_ptr_named (nm := "errors.errorString") (by rw [show "*" ++ "errors.errorString" = "*errors.errorString" by decide]; kernel_rfl) (by kernel_rfl) (by decide) u (by rw [show "*" ++ "errors.errorString" = "*errors.errorString" by decide]; exact h)
theorem of_laid {W : World} (h : laidMetH Tryd.prog laid7 W) (hs : W.ShapedOpen Tryd.prog) : RdW W := by
  rw [MakeChecks.laidMetH_plain _ _ _ (by kernel_rfl)] at h
  have h3 := laidMet.tail (laidMet.tail h)
  have h5 := laidMet.tail (laidMet.tail h3)
  have h6 := laidMet.tail h5
  refine ⟨Lib.tabIs_of_head (t := 125) (e := 113) (n := 20) (g := 1) (by kernel_rfl) (by kernel_rfl) (by kernel_rfl) (by kernel_rfl) (by kernel_rfl) (by kernel_rfl) h3, ?_, ?_, ?_⟩
  · exact cell_of_shapedOpen_int (g := 0) (t := 3) (zero := #[.int .i64 0]) hs (of_decide_eq_true (by kernel_rfl)) (by kernel_rfl) rfl (by kernel_rfl) (by kernel_rfl) (by kernel_rfl)
  · obtain ⟨a, s, hv, _⟩ := laid_sentinel (g := 2) (ti := 66) (tp := 151) (te := 153) (ts := 9) h6 (by kernel_rfl) (by kernel_rfl) Tryd.underlying66 row_error Tryd.underlying151 Tryd.underlying153 rfl rfl Tryd.underlying9 (by kernel_rfl) (by kernel_rfl)
    exact ⟨_, by simpa using World.var?_cell (g := 2) (by kernel_rfl) hv 0, .inr ⟨_, _, rfl⟩⟩
  · obtain ⟨a, s, hv, _⟩ := laid_sentinel (g := 3) (ti := 66) (tp := 151) (te := 153) (ts := 9) h5 (by kernel_rfl) (by kernel_rfl) Tryd.underlying66 row_error Tryd.underlying151 Tryd.underlying153 rfl rfl Tryd.underlying9 (by kernel_rfl) (by kernel_rfl)
    exact ⟨_, by simpa using World.var?_cell (g := 3) (by kernel_rfl) hv 0, .inr ⟨_, _, rfl⟩⟩
/-- The wrap that hands the world's shape on, beside what is laid. -/
theorem handed {H : Type} {enc : TypeId × Value → H} {a : Assume} {C : Checked} {os : Os} {f : FuncId} {fn : Func} {s : ChangeSpec} {conds : List PathCond} {apart fresh handsOn again : Bool} {X : World → Array Value → Prop}
    (hX : ∀ (w w' : World) (args : Array Value), w.heap = w'.heap → X w args → X w' args)
    (own : ownKnob C.prog.godebug = none) (started : os.Started) (noInit : C.prog.inits.idxOf? f = none) (hfn : C.prog.funcs[f]? = some fn)
    (witness : ∃ (w : World) (tape : Tape) (i : Input), w.os = os ∧ (w.forCall tape i).Shaped C.prog ∧ i.vars = [] ∧ Input.okWide C.prog (w.forCall tape i) .any w.heap.size f i ∧
      ((s.pre enc C.prog fn conds apart (w.forCall tape i).memory i.args ∧ X (w.forCall tape i).memory i.args) ∧ sizedMet enc C.prog fn (OpenSpec.ofChange s) apart (w.forCall tape i).memory i.args) ∧ a.holds C.prog (lone (Frame.enter C.prog f i.args .normal) [] (w.forCall tape i)))
    (contract : ∀ (W : World) (base : Nat) (args : Array Value) (ds gs : List (DataW H)) (before : List MemPlace),
      (∀ (j : Nat) t v, fn.params[j]? = some t → args[j]? = some v → Value.okWide C.prog W .any base t v) →
      DataW.Whole enc C.prog fn.params.toList s.vars apart W args.toList ds gs before → W.ShapedOpen C.prog → X W args →
      Calls C.prog f args W fun e W' => ∃ v, e = .returned v ∧ s.post enc C.prog fn apart fresh handsOn again W args v W') :
    ReturnsInHanded a C os f .any (fun w args => (s.pre enc C.prog fn conds apart w args ∧ X w args) ∧ sizedMet enc C.prog fn (OpenSpec.ofChange s) apart w args) (s.post enc C.prog fn apart fresh handsOn again) := by
  refine returnsInHanded_of_calls own started noInit witness ?_
  intro w tape i _ hsh _ hok hpre _
  obtain ⟨_, _, _, fn', hfn', _, _, _, _, hval⟩ := hok
  obtain rfl : fn' = fn := Option.some.inj (hfn'.symm.trans hfn)
  obtain ⟨⟨⟨ds, gs, before, hw, _⟩, hx⟩, _⟩ := hpre
  refine (contract (w.forCall tape i) w.heap.size i.args ds gs before hval (DataW.Whole.of_heap (w' := w.forCall tape i) (by rfl) hw) hsh (hX _ _ _ (by rfl) hx)).mono fun e W' ⟨v, he, hp⟩ => ?_
  subst he
  exact ChangeSpec.post_blind hp
set_option maxRecDepth 100000 in
theorem lifted (os : Os) (started : os.Started) (H : Type) (enc : TypeId × Value → H) :
    ReturnsInHanded {} Tryd.checked os 3 .any (fun w args => (Rows.fnExactReadFeatsSpec.pre enc Tryd.prog Tryd.f3 [] false w args ∧ laidMetH Tryd.prog laid7 w) ∧ sizedMet enc Tryd.prog Tryd.f3 (OpenSpec.ofChange Rows.fnExactReadFeatsSpec) false w args) (Rows.fnExactReadFeatsSpec.post enc Tryd.prog Tryd.f3 false true false false) := by
  refine handed (C := Tryd.checked) (X := fun w _ => laidMetH Tryd.prog laid7 w) (fun _ _ _ hh h => h.of_heap hh) Tryd.own started (by kernel_rfl) Tryd.func3
    (ChangeSpec.witness_shaped (enc := enc) (C := Tryd.checked) (os := os) (X := fun w _ => laidMetH Tryd.prog laid7 w) false (World.laidAll Tryd.prog os laid7) #[.string ByteArray.empty] 8 (World.laidAll_os _ _ _) (World.shaped_of_ZipB (by kernel_rfl) (by kernel_rfl)) (by kernel_rfl) (by kernel_rfl) (by kernel_rfl)
      (by rw [MakeChecks.laidMetH_plain _ _ _ (by kernel_rfl)]; exact laidMet_laidAll _ (by kernel_rfl) (by kernel_rfl))) ?_
  intro W base args ds gs before hval0 hW hSh hL
  have hval : ∀ (j : Nat) t v, Tryd.f3.params[j]? = some t → args[j]? = some v → Value.okWide Tryd.prog W .any base t v := hval0
  have hW' := hW
  obtain ⟨p, q, hA0, hV, rfl, hfz, hnd⟩ := hW
  have hA : DataW.TrodAll enc Tryd.prog W 0 (fun _ => true) true Tryd.f3.params.toList args.toList ds p := hA0
  rw [Tryd.params3] at hA hval
  obtain ⟨v0, vs0, d0, ds0, p0, q0, hargs, rfl, rfl, h0, tr0⟩ := trodAll_cons hA
  obtain ⟨rfl, rfl, rfl⟩ := trodAll_nil tr0
  obtain rfl : args = #[v0] := by cases args; simp_all
  obtain ⟨rfl, rfl⟩ := trodVars_none hV
  have k0 := h0
  have lt0 : ∀ x ∈ p0, x.block < W.heap.size := by obtain ⟨m, hm⟩ := k0; exact DataW.trod_lt m _ _ _ hm
  obtain ⟨s0, rfl, g0⟩ := opStr (hval 0 9 v0 rfl rfl) h0
  clear hA0 hval0
  refine (walk s0 W g0 (of_laid hL hSh)).mono fun e W' ⟨he, bel⟩ => ?_
  subst he
  exact ⟨_, rfl, _, _, _, [], _, [], hW', trodAll_mk1 (shut_bool Tryd.underlying4 _), (trodAll_cons_mk (Below.trod Tryd.laidOut (by kernel_rfl) (of_decide_eq_true (by kernel_rfl)) k0 bel lt0) trodAll_mk0), rfl, bel.frame _, fun h => by cases h⟩

theorem over : Rows.fnExactReadFeatsRow.holds Tryd.pinned (OpenSpec.ofChange Rows.fnExactReadFeatsSpec) :=
  OpenClaim.holds_of_wide 3 Tryd.f3 rfl rfl rfl rfl rfl rfl rfl ⟨rfl, rfl, rfl, rfl, rfl⟩ rfl rfl rfl rfl rfl (by kernel_rfl) Tryd.func3 (by kernel_rfl)
    (of_decide_eq_true (by kernel_rfl)) (by unfold Func.isWrapper; first | (rw [if_pos (by decide +kernel)]; kernel_rfl) | (rw [if_neg (by decide +kernel)]; exact ⟨rfl, rfl⟩))
    (fun os started H enc _ => lifted os started H enc)

/-- The card. -/
theorem proved : Rows.FnExactReadFeatsCardSaid :=
  Claim7.holds_tied_plain_at .later [] [.data, .data, .data, .data, .sentinel, .sentinel, .pinned] true (true, "71e0c3e69f39d18281860b296be04c8bbae8ea44f794866ae4ec102bc20808ae") true
    over (fun _ h => by cases h) (by kernel_rfl) (fun _ h => by cases h) fnExactReadFeats_row_tie rfl ⟨rfl, rfl⟩ (by kernel_rfl) rfl
    (fun f fn hf hfn => by
      obtain rfl : f = 3 := Option.some.inj ((show Tryd.prog.funcNamed "loop.example/g00918/laws.FnExactReadFeats" = some 3 by kernel_rfl).symm.trans hf) |>.symm
      obtain rfl : fn = Tryd.f3 := (Option.some.inj (Tryd.func3.symm.trans hfn)).symm
      exact ⟨by kernel_rfl, fun j t ht => by
        rw [Tryd.params3] at ht
        have hm : t ∈ [9] := by simpa using Array.mem_of_getElem? ht
        have hall : ([9].all fun u => !Tryd.prog.wantsStandIn u) = true := by kernel_rfl
        exact (show Tryd.prog.wantsStandIn t = false by simpa using List.all_eq_true.1 hall t hm)⟩)
    (by kernel_rfl)
end fnExactReadFeats
end Go.Proofs.YtnjifhlabbejoaaDoor
