/- The law of ReadStore returns true for every input: the program's ReadStore and the reference's return the same. No condition beyond what the card ties: the tables of the library hold what its text lays in them. -/
import Derived.Test.YtnjifhlabbejoaaGreatDoorTm
import Derived.Test.YtnjifhlabbejoaaGreatDoorRb
import Derived.Test.YtnjifhlabbejoaaGreatDoorRh
import Derived.Test.YtnjifhlabbejoaaGreatDoorGn
import Derived.Test.YtnjifhlabbejoaaGreatDoorAr
import Derived.Test.YtnjifhlabbejoaaGreatDoorCards
import Derived.Test.YtnjifhlabbejoaaGreatDoorTie
import Derived.ProofKit
import Derived.LaidMore
import Derived.OpenShut
import Derived.Stop.Joined
import Derived.SevenTiedAt
import Derived.Lib.LaidTab
import Derived.Stop.LaidErr
import Derived.Deep.RegionHeld3
import Derived.Lay
import Derived.LaidOnce
import Derived.HandedShaped
import Derived.Shelf.Vars
import Derived.ChangeOld
namespace Go.Proofs.YtnjifhlabbejoaaGreatDoor
open Go.ChangeShapes Go.WideShapes Go.ChangeAt Go.RowKit
namespace fnExactReadStore
set_option linter.unusedVariables false
theorem walk (s0 : ByteArray) (w : World) (g0 : s0.size ≤ maxLen) (ht : RdW w) :
    Calls Tryz.prog 3 #[.string s0] w fun e w' => e = .returned (.bool true) ∧ Below w.heap.size w w' := by
  have hs := g0
  unfold maxLen at hs
  by_cases hbig : s0.size ≤ 1048576
  · have HTOT := Lib.hid (rsL_tot hbig)
    have HSP := Lib.hid (fun w => sReadStore_any s0 w hbig)
    have HIM := Lib.hid (fun w h => iReadStore_any s0 w hbig h)
    obtain ⟨b, hb⟩ : ∃ b, rsB s0 = b := ⟨_, rfl⟩
    obtain ⟨z, hz⟩ : ∃ z, rsZ s0 = z := ⟨_, rfl⟩
    obtain ⟨L, hL⟩ : ∃ L, rsL s0 = L := ⟨_, rfl⟩
    rw [hb, hz, hL] at HSP HIM
    rw [hL] at HTOT
    have HT := Lib.hid ht
    clear ht hb hz hL
    go_enter Tryz.func3, Tryz.ntmps3
    have B0 : Below w.heap.size w w := Below.refl _ _
    go_wp2_with fail
    with_reducible refine (HSP.out _).mono ?_
    rintro e w1 ⟨Aw1, nw1, cw1, sw1, rfl, Tw1, hbw1⟩
    have zw1 := hbw1.size
    replace B0 := below_on hbw1 B0
    have Bw1 : Below w1.heap.size w1 w1 := Below.refl _ _
    go_wp2_with fail
    generalize hW : w1.alloc (.cells #[.int .i64 z, .slice Aw1 nw1 cw1] 24) = w2
    have hbw2 : Below w1.heap.size w1 w2 := by rw [← hW]; exact (Below.refl _ _).alloc (Nat.le_refl _) _
    have Jw2 : Blk w2 w1.heap.size 24 #[.int .i64 z, .slice Aw1 nw1 cw1] := by rw [← hW]; exact Blk.new _ _ _
    clear hW
    have zw2 := hbw2.size
    replace B0 := below_on hbw2 B0
    replace Bw1 := below_on hbw2 Bw1
    have Bw2 : Below w2.heap.size w2 w2 := Below.refl _ _
    with_reducible refine (HIM.out _ (HT.out.on B0)).mono ?_
    rintro e w3 ⟨Aw3, nw3, cw3, sw3, rfl, Tw3, hbw3⟩
    have zw3 := hbw3.size
    replace B0 := below_on hbw3 B0
    replace Bw1 := below_on hbw3 Bw1
    replace Bw2 := below_on hbw3 Bw2
    have Bw3 : Below w3.heap.size w3 w3 := Below.refl _ _
    have kk0 := (Jw2.on Bw2)
    have kc0_0 := kk0.cell 0
    have kc0_1 := kk0.cell 1
    simp only [List.getElem?_toArray, List.getElem?_cons_succ, List.getElem?_cons_zero] at kc0_0 kc0_1
    have kz0 := kk0.lt
    go_wp2_with fail
    clear kk0 kz0 kc0_0 kc0_1
    generalize hW : w3.alloc (.cells #[.int .i64 z, .slice Aw3 nw3 cw3] 24) = w4
    have hbw4 : Below w3.heap.size w3 w4 := by rw [← hW]; exact (Below.refl _ _).alloc (Nat.le_refl _) _
    have Jw4 : Blk w4 w3.heap.size 24 #[.int .i64 z, .slice Aw3 nw3 cw3] := by rw [← hW]; exact Blk.new _ _ _
    clear hW
    have zw4 := hbw4.size
    replace B0 := below_on hbw4 B0
    replace Bw1 := below_on hbw4 Bw1
    replace Bw2 := below_on hbw4 Bw2
    replace Bw3 := below_on hbw4 Bw3
    have Bw4 : Below w4.heap.size w4 w4 := Below.refl _ _
    with_reducible refine (eqStore_yes _ _ _ _ _ _ _ _ _ ((tl_own Tw3.o Tw3.l Tw3.x Tw3.u).on Bw3) ((tl_own Tw1.o Tw1.l Tw1.x Tw1.u).on Bw1) HTOT.out).mono ?_
    rintro e w5 ⟨rfl, hbw5⟩
    have zw5 := hbw5.size
    replace B0 := below_on hbw5 B0
    replace Bw1 := below_on hbw5 Bw1
    replace Bw2 := below_on hbw5 Bw2
    replace Bw3 := below_on hbw5 Bw3
    replace Bw4 := below_on hbw5 Bw4
    have hls : nw3 + (lens L).sum ≤ 1048576 := by have h9 := lens_sum HTOT.out; rw [Tw3.x] at h9; exact h9
    have hAw6 : ∀ a : Addr, Aw3 = some a → w2.heap.size ≤ a.block ∧ a.block < w3.heap.size := fun a ha => Tw3.o.lt a.block (by rw [ha]; rfl)
    have hBw6 : w2.heap.size ≤ w5.heap.size := by omega
    have htw6 : w3.heap.size ≤ w5.heap.size := by omega
    have kk0 := (Jw4.on Bw4)
    have kc0_0 := kk0.cell 0
    have kc0_1 := kk0.cell 1
    simp only [List.getElem?_toArray, List.getElem?_cons_succ, List.getElem?_cons_zero] at kc0_0 kc0_1
    have kz0 := kk0.lt
    go_wp2_with fail
    clear kk0 kz0 kc0_0 kc0_1
    with_reducible refine (markStore_own z _ _ _ _ _ w3.heap.size _ _ _ _ (own_below Tw3.o Bw3) Tw3.l Tw3.x (Tw3.u.on Bw3) Tw3.d Tw3.top hAw6 hBw6 htw6 HTOT.out (by omega) (by omega)).mono ?_
    rintro e w6 ⟨hsw6, rfl, hcw6, ow6, lw6, uw6, mw6⟩
    have zw6 := hcw6.1.size
    clear  hAw6 hBw6 htw6
    replace B0 := B0.trans (hcw6.1.mono (by omega))
    replace Bw1 := Bw1.trans (hcw6.1.mono (by omega))
    replace Bw2 := Bw2.trans (hcw6.1.mono (by omega))
    have Kw6G := Blk.chg (Jw4.on Bw4) hcw6 (by omega)
    clear Bw3
    clear Bw4
    have Bw6 : Below w6.heap.size w6 w6 := Below.refl _ _
    obtain ⟨hka, hkb⟩ := kAt_bd (k := 1) (r := nw3) HTOT.out (by rw [Tw3.x]; exact Nat.le_refl _) (by omega) (by omega)
    have kk0 := (Kw6G.on Bw6)
    have kc0_0 := kk0.cell 0
    have kc0_1 := kk0.cell 1
    simp only [List.getElem?_toArray, List.getElem?_cons_succ, List.getElem?_cons_zero] at kc0_0 kc0_1
    have kz0 := kk0.lt
    go_wp2_with fail
    clear kk0 kz0 kc0_0 kc0_1
    with_reducible refine (heldStore_any _ _ _ _ _ _ _ ((tl_own ow6 lw6 (by rw [mkT_len, lens_len]; exact Tw3.x) uw6).on Bw6) hls (by omega) (by omega)).mono ?_
    rintro e w7 ⟨rfl, hbw7⟩
    have zw7 := hbw7.size
    replace B0 := below_on hbw7 B0
    replace Bw1 := below_on hbw7 Bw1
    replace Bw2 := below_on hbw7 Bw2
    replace Bw6 := below_on hbw7 Bw6
    go_wp2_with fail
    with_reducible refine (HIM.out _ (HT.out.on B0)).mono ?_
    rintro e w8 ⟨Aw8, nw8, cw8, sw8, rfl, Tw8, hbw8⟩
    have zw8 := hbw8.size
    replace B0 := below_on hbw8 B0
    replace Bw1 := below_on hbw8 Bw1
    replace Bw2 := below_on hbw8 Bw2
    replace Bw6 := below_on hbw8 Bw6
    have Bw8 : Below w8.heap.size w8 w8 := Below.refl _ _
    have kk0 := (Jw2.on Bw2)
    have kc0_0 := kk0.cell 0
    have kc0_1 := kk0.cell 1
    simp only [List.getElem?_toArray, List.getElem?_cons_succ, List.getElem?_cons_zero] at kc0_0 kc0_1
    have kz0 := kk0.lt
    go_wp2_with fail
    clear kk0 kz0 kc0_0 kc0_1
    generalize hW : w8.alloc (.cells #[.int .i64 z, .slice Aw8 nw8 cw8] 24) = w9
    have hbw9 : Below w8.heap.size w8 w9 := by rw [← hW]; exact (Below.refl _ _).alloc (Nat.le_refl _) _
    have Jw9 : Blk w9 w8.heap.size 24 #[.int .i64 z, .slice Aw8 nw8 cw8] := by rw [← hW]; exact Blk.new _ _ _
    clear hW
    have zw9 := hbw9.size
    replace B0 := below_on hbw9 B0
    replace Bw1 := below_on hbw9 Bw1
    replace Bw2 := below_on hbw9 Bw2
    replace Bw6 := below_on hbw9 Bw6
    replace Bw8 := below_on hbw9 Bw8
    have Bw9 : Below w9.heap.size w9 w9 := Below.refl _ _
    with_reducible refine (eqStore_yes _ _ _ _ _ _ _ _ _ ((tl_own Tw8.o Tw8.l Tw8.x Tw8.u).on Bw8) ((tl_own Tw1.o Tw1.l Tw1.x Tw1.u).on Bw1) HTOT.out).mono ?_
    rintro e w10 ⟨rfl, hbw10⟩
    have zw10 := hbw10.size
    replace B0 := below_on hbw10 B0
    replace Bw1 := below_on hbw10 Bw1
    replace Bw2 := below_on hbw10 Bw2
    replace Bw6 := below_on hbw10 Bw6
    replace Bw8 := below_on hbw10 Bw8
    replace Bw9 := below_on hbw10 Bw9
    have kk0 := (Kw6G.on Bw6)
    have kc0_0 := kk0.cell 0
    have kc0_1 := kk0.cell 1
    simp only [List.getElem?_toArray, List.getElem?_cons_succ, List.getElem?_cons_zero] at kc0_0 kc0_1
    have kz0 := kk0.lt
    go_wp2_with fail
    clear kk0 kz0 kc0_0 kc0_1
    with_reducible refine (heldStore_any _ _ _ _ _ _ _ ((tl_own ow6 lw6 (by rw [mkT_len, lens_len]; exact Tw3.x) uw6).on Bw6) hls (by omega) (by omega)).mono ?_
    rintro e w11 ⟨rfl, hbw11⟩
    have zw11 := hbw11.size
    replace B0 := below_on hbw11 B0
    replace Bw1 := below_on hbw11 Bw1
    replace Bw2 := below_on hbw11 Bw2
    replace Bw6 := below_on hbw11 Bw6
    replace Bw8 := below_on hbw11 Bw8
    replace Bw9 := below_on hbw11 Bw9
    go_wp2
    go_ret
    exact ⟨rfl, B0⟩
  · go_enter Tryz.func3, Tryz.ntmps3
    go_wp2
    go_ret
    exact ⟨rfl, Below.refl _ _⟩

/-! ### From the walk to the statement -/
def laid7 : List (String × DataW Unit) := [("math/bits.deBruijn32tab", Rows.laid_math_bits_deBruijn32tab), ("math/bits.deBruijn64tab", Rows.laid_math_bits_deBruijn64tab), ("internal/strconv.uint64pow10", Rows.laid_internal_strconv_uint64pow10), ("unicode/utf8.acceptRanges", Rows.laid_unicode_utf8_acceptRanges), ("strconv.ErrRange", Rows.laid_strconv_ErrRange), ("strconv.ErrSyntax", Rows.laid_strconv_ErrSyntax), ("unicode/utf8.first", Rows.laid_unicode_utf8_first)]
theorem row_error (u : TypeId) (h : Tryz.prog.typeName? 3 u = some "*errors.errorString") : u = 122 :=
  typeName_ptr_named (nm := "errors.errorString") (by rw [show "*" ++ "errors.errorString" = "*errors.errorString" by decide]; kernel_rfl) (by kernel_rfl) (by decide) u (by rw [show "*" ++ "errors.errorString" = "*errors.errorString" by decide]; exact h)
theorem of_laid {W : World} (h : laidMetH Tryz.prog laid7 W) (hs : W.ShapedOpen Tryz.prog) : RdW W := by
  rw [MakeChecks.laidMetH_plain _ _ _ (by kernel_rfl)] at h
  have h3 := laidMet.tail (laidMet.tail h)
  have h5 := laidMet.tail (laidMet.tail h3)
  have h6 := laidMet.tail h5
  refine ⟨Lib.tabIs_of_head (t := 126) (e := 93) (n := 20) (g := 3) (by kernel_rfl) (by kernel_rfl) (by kernel_rfl) (by kernel_rfl) (by kernel_rfl) (by kernel_rfl) h3, ?_, ?_, ?_⟩
  · exact cell_of_shapedOpen_int (g := 2) (t := 3) (zero := #[.int .i64 0]) hs (of_decide_eq_true (by kernel_rfl)) (by kernel_rfl) rfl (by kernel_rfl) (by kernel_rfl) (by kernel_rfl)
  · obtain ⟨a, s, hv, _⟩ := laid_sentinel (g := 0) (ti := 53) (tp := 122) (te := 124) (ts := 9) h6 (by kernel_rfl) (by kernel_rfl) Tryz.underlying53 row_error Tryz.underlying122 Tryz.underlying124 rfl rfl Tryz.underlying9 (by kernel_rfl) (by kernel_rfl)
    exact ⟨_, by simpa using World.var?_cell (g := 0) (by kernel_rfl) hv 0, .inr ⟨_, _, rfl⟩⟩
  · obtain ⟨a, s, hv, _⟩ := laid_sentinel (g := 1) (ti := 53) (tp := 122) (te := 124) (ts := 9) h5 (by kernel_rfl) (by kernel_rfl) Tryz.underlying53 row_error Tryz.underlying122 Tryz.underlying124 rfl rfl Tryz.underlying9 (by kernel_rfl) (by kernel_rfl)
    exact ⟨_, by simpa using World.var?_cell (g := 1) (by kernel_rfl) hv 0, .inr ⟨_, _, rfl⟩⟩
/-- The wrap that hands the world's shape on, beside what is laid. -/
theorem handed {H : Type} {enc : TypeId × Value → H} {a : Assume} {C : Checked} {os : Os} {f : FuncId} {fn : Func} {s : ChangeSpec} {conds : List PathCond} {apart fresh handsOn again : Bool} {X : World → Array Value → Prop}
    (hX : ∀ (w w' : World) (args : Array Value), w.heap = w'.heap → X w args → X w' args)
    (own : ownKnob C.prog.godebug = none) (started : os.Started) (noInit : C.prog.inits.idxOf? f = none) (hfn : C.prog.funcs[f]? = some fn)
    (witness : ∃ (w : World) (tape : Tape) (i : Input), w.os = os ∧ (w.forCall tape i).Shaped C.prog ∧ i.vars = [] ∧ Input.okWide C.prog (w.forCall tape i) .any w.heap.size f i ∧
      ((s.pre enc C.prog fn conds apart (w.forCall tape i).memory i.args ∧ X (w.forCall tape i).memory i.args) ∧ sizedMet enc C.prog fn (OpenSpec.ofChange s) apart (w.forCall tape i).memory i.args) ∧ a.holds C.prog (lone (Frame.enter C.prog f i.args .normal) [] (w.forCall tape i)))
    (contract : ∀ (W : World) (base : Nat) (args : Array Value) (ds gs : List (DataW H)) (before : List MemPlace),
      (∀ (j : Nat) t v, fn.params[j]? = some t → args[j]? = some v → Value.okWide C.prog W .any base t v) →
      DataW.Whole enc C.prog fn.params.toList s.vars apart W args.toList ds gs before → W.ShapedOpen C.prog → X W args →
      Calls C.prog f args W fun e W' => ∃ v, e = .returned v ∧ s.post enc C.prog fn apart fresh handsOn again W args v W') :
    ReturnsInHanded a C os f .any (fun w args => (s.pre enc C.prog fn conds apart w args ∧ X w args) ∧ sizedMet enc C.prog fn (OpenSpec.ofChange s) apart w args) (s.post enc C.prog fn apart fresh handsOn again) := by
  refine returnsInHanded_of_calls own started noInit witness ?_
  intro w tape i _ hsh _ hok hpre _
  obtain ⟨_, _, _, fn', hfn', _, _, _, _, hval⟩ := hok
  obtain rfl : fn' = fn := Option.some.inj (hfn'.symm.trans hfn)
  obtain ⟨⟨⟨ds, gs, before, hw, _⟩, hx⟩, _⟩ := hpre
  refine (contract (w.forCall tape i) w.heap.size i.args ds gs before hval (DataW.Whole.of_heap (w' := w.forCall tape i) (by rfl) hw) hsh (hX _ _ _ (by rfl) hx)).mono fun e W' ⟨v, he, hp⟩ => ?_
  subst he
  exact ChangeSpec.post_blind hp
set_option maxRecDepth 100000 in
theorem lifted (os : Os) (started : os.Started) (H : Type) (enc : TypeId × Value → H) :
    ReturnsInHanded {} Tryz.checked os 3 .any (fun w args => (Rows.fnExactReadStoreSpec.pre enc Tryz.prog Tryz.f3 [] false w args ∧ laidMetH Tryz.prog laid7 w) ∧ sizedMet enc Tryz.prog Tryz.f3 (OpenSpec.ofChange Rows.fnExactReadStoreSpec) false w args) (Rows.fnExactReadStoreSpec.post enc Tryz.prog Tryz.f3 false true false false) := by
  refine handed (C := Tryz.checked) (X := fun w _ => laidMetH Tryz.prog laid7 w) (fun _ _ _ hh h => h.of_heap hh) Tryz.own started (by kernel_rfl) Tryz.func3
    (ChangeSpec.witness_shaped (enc := enc) (C := Tryz.checked) (os := os) (X := fun w _ => laidMetH Tryz.prog laid7 w) false (World.laidAll Tryz.prog os laid7) #[.string ByteArray.empty] 8 (World.laidAll_os _ _ _) (World.shaped_of_ZipB (by kernel_rfl) (by kernel_rfl)) (by kernel_rfl) (by kernel_rfl) (by kernel_rfl)
      (by rw [MakeChecks.laidMetH_plain _ _ _ (by kernel_rfl)]; exact laidMet_laidAll _ (by kernel_rfl) (by kernel_rfl))) ?_
  intro W base args ds gs before hval0 hW hSh hL
  have hval : ∀ (j : Nat) t v, Tryz.f3.params[j]? = some t → args[j]? = some v → Value.okWide Tryz.prog W .any base t v := hval0
  have hW' := hW
  obtain ⟨p, q, hA0, hV, rfl, hfz, hnd⟩ := hW
  have hA : DataW.TrodAll enc Tryz.prog W 0 (fun _ => true) true Tryz.f3.params.toList args.toList ds p := hA0
  rw [Tryz.params3] at hA hval
  obtain ⟨v0, vs0, d0, ds0, p0, q0, hargs, rfl, rfl, h0, tr0⟩ := trodAll_cons hA
  obtain ⟨rfl, rfl, rfl⟩ := trodAll_nil tr0
  obtain rfl : args = #[v0] := by cases args; simp_all
  obtain ⟨rfl, rfl⟩ := trodVars_none hV
  have k0 := h0
  have lt0 : ∀ x ∈ p0, x.block < W.heap.size := by obtain ⟨m, hm⟩ := k0; exact DataW.trod_lt m _ _ _ hm
  obtain ⟨s0, rfl, g0⟩ := opStr (hval 0 9 v0 rfl rfl) h0
  clear hA0 hval0
  refine (walk s0 W g0 (of_laid hL hSh)).mono fun e W' ⟨he, bel⟩ => ?_
  subst he
  exact ⟨_, rfl, _, _, _, [], _, [], hW', trodAll_mk1 (shut_bool Tryz.underlying4 _), (trodAll_cons_mk (Below.trod Tryz.laidOut (by kernel_rfl) (of_decide_eq_true (by kernel_rfl)) k0 bel lt0) trodAll_mk0), rfl, bel.frame _, fun h => by cases h⟩

theorem over : Rows.fnExactReadStoreRow.holds Tryz.pinned (OpenSpec.ofChange Rows.fnExactReadStoreSpec) :=
  OpenClaim.holds_of_wide 3 Tryz.f3 rfl rfl rfl rfl rfl rfl rfl ⟨rfl, rfl, rfl, rfl, rfl⟩ rfl rfl rfl rfl rfl (by kernel_rfl) Tryz.func3 (by kernel_rfl)
    (of_decide_eq_true (by kernel_rfl)) (by unfold Func.isWrapper; first | (rw [if_pos (by decide +kernel)]; kernel_rfl) | (rw [if_neg (by decide +kernel)]; exact ⟨rfl, rfl⟩))
    (fun os started H enc _ => lifted os started H enc)

/-- The card. -/
theorem proved : Rows.FnExactReadStoreCardSaid :=
  Claim7.holds_tied_plain_at .later [] [.data, .data, .data, .data, .sentinel, .sentinel, .pinned] true (true, "bbd4283d64b25c4abcadaa37fca288679929644914fa13ce012bb39ae2241f01") true
    over (fun _ h => by cases h) (by kernel_rfl) (fun _ h => by cases h) fnExactReadStore_row_tie rfl ⟨rfl, rfl⟩ (by kernel_rfl) rfl
    (fun f fn hf hfn => by
      obtain rfl : f = 3 := Option.some.inj ((show Tryz.prog.funcNamed "loop.example/g00918/laws.FnExactReadStore" = some 3 by kernel_rfl).symm.trans hf) |>.symm
      obtain rfl : fn = Tryz.f3 := (Option.some.inj (Tryz.func3.symm.trans hfn)).symm
      exact ⟨by kernel_rfl, fun j t ht => by
        rw [Tryz.params3] at ht
        have hm : t ∈ [9] := by simpa using Array.mem_of_getElem? ht
        have hall : ([9].all fun u => !Tryz.prog.wantsStandIn u) = true := by kernel_rfl
        exact (show Tryz.prog.wantsStandIn t = false by simpa using List.all_eq_true.1 hall t hm)⟩)
    (by kernel_rfl)
end fnExactReadStore
end Go.Proofs.YtnjifhlabbejoaaGreatDoor
