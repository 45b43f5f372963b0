/- The law of ValidEnvelope returns true for every input: the program's ValidEnvelope and the reference's return the same. No condition: every argument that can be read. -/
import Derived.Test.YtoaeclnhhciimaaEq
import Derived.Test.YtoaeclnhhciimaaGn
import Derived.Test.YtoaeclnhhciimaaAr
import Derived.ProofKit
import Derived.Deep.RegionHeld3
import Derived.ChangeOld
namespace Go.Proofs.Ytoaeclnhhciimaa
open Go.ChangeShapes Go.WideShapes Go.ChangeAt Go.RowKit
namespace fnExactValidEnvelope
set_option linter.unusedVariables false
theorem walk (A0 B0 C0 D0 : Option Addr) (na0 ca0 nb0 cb0 nc0 cc0 nd0 cd0 : Nat) (la0 lb0 lc0 ld0 : List Int) (w : World) (ra0 : RdL c1 1 w w.heap.size A0 na0 ca0 la0) (rb0 : RdL c1 1 w w.heap.size B0 nb0 cb0 lb0) (rc0 : RdL c1 1 w w.heap.size C0 nc0 cc0 lc0) (rd0 : RdL c1 1 w w.heap.size D0 nd0 cd0 ld0) (ga0 : ∀ x ∈ la0, I64 x) (gb0 : ∀ x ∈ lb0, I64 x) (gc0 : ∀ x ∈ lc0, I64 x) (gd0 : ∀ x ∈ ld0, I64 x) :
    Calls Try.prog 3 #[.agg #[.slice A0 na0 ca0, .slice B0 nb0 cb0, .slice C0 nc0 cc0, .slice D0 nd0 cd0]] w fun e w' => e = .returned (.bool true) ∧ Below w.heap.size w w' := by
  have K0 := Blk.new w 24 #[.slice A0 na0 ca0, .slice B0 nb0 cb0, .slice C0 nc0 cc0, .slice D0 nd0 cd0]
  have hB : Below w.heap.size w (w.alloc (.cells #[.slice A0 na0 ca0, .slice B0 nb0 cb0, .slice C0 nc0 cc0, .slice D0 nd0 cd0] 24)) := (Below.refl _ _).alloc (Nat.le_refl _) _
  have ma : na0 ≤ 9223372036854775807 := Nat.le_trans ra0.cap ra0.capm
  have mb : nb0 ≤ 9223372036854775807 := Nat.le_trans rb0.cap rb0.capm
  have mc : nc0 ≤ 9223372036854775807 := Nat.le_trans rc0.cap rc0.capm
  have md : nd0 ≤ 9223372036854775807 := Nat.le_trans rd0.cap rd0.capm
  by_cases hbig : na0 + nb0 + nc0 + nd0 ≤ 1048576
  · have ha : na0 ≤ 1048576 := by omega
    have hb : nb0 ≤ 1048576 := by omega
    have hc : nc0 ≤ 1048576 := by omega
    have hd : nd0 ≤ 1048576 := by omega
    go_enter Try.func3, Try.ntmps3
    go_wp2_with fail
    with_reducible refine (szEnv_yes _ _ _ _ _ _ _ _ _ _ _ _ _ _ ma mb mc md (by omega) (by omega) (by omega)).mono ?_
    rintro e w1 ⟨rfl, hb1⟩
    replace hB := below_on hb1 hB
    replace K0 := K0.on hb1
    have e0 := K0.cell 0
    have e1 := K0.cell 1
    have e2 := K0.cell 2
    have e3 := K0.cell 3
    simp only [List.getElem?_toArray, List.getElem?_cons_succ, List.getElem?_cons_zero] at e0 e1 e2 e3
    have hz : (0 : Int) ≤ 1048576 - na0 - nb0 - nc0 - nd0 := by omega
    go_wp2_with fail
    clear e0 e1 e2 e3
    with_reducible refine (toEnv_any _ _ _ _ _ _ _ _ _ _ _ _ la0 lb0 lc0 ld0 _ (ra0.on hB) (rb0.on hB) (rc0.on hB) (rd0.on hB) ha hb hc hd).mono ?_
    rintro e w2 ⟨A2, B2, C2, D2, rfl, ra2, rb2, rc2, rd2, hb2⟩
    replace hB := below_on hb2 hB
    replace K0 := K0.on hb2
    go_wp2_with fail
    with_reducible refine (sValidEnv_any _ _ _ _ _ _ _ _ _ _ _ _ la0 lb0 lc0 ld0 _ ra2 rb2 rc2 rd2 ha hb hc hd).mono ?_
    rintro e w3 ⟨rfl, hb3⟩
    replace hB := below_on hb3 hB
    replace K0 := K0.on hb3
    have e0 := K0.cell 0
    have e1 := K0.cell 1
    have e2 := K0.cell 2
    have e3 := K0.cell 3
    simp only [List.getElem?_toArray, List.getElem?_cons_succ, List.getElem?_cons_zero] at e0 e1 e2 e3
    go_wp2_with fail
    clear e0 e1 e2 e3
    with_reducible refine (toEnv_any _ _ _ _ _ _ _ _ _ _ _ _ la0 lb0 lc0 ld0 _ (ra0.on hB) (rb0.on hB) (rc0.on hB) (rd0.on hB) ha hb hc hd).mono ?_
    rintro e w4 ⟨A4, B4, C4, D4, rfl, ra4, rb4, rc4, rd4, hb4⟩
    replace hB := below_on hb4 hB
    replace K0 := K0.on hb4
    go_wp2_with fail
    have J0 := Blk.new w4 27 #[.slice A4 na0 na0, .slice B4 nb0 nb0, .slice C4 nc0 nc0, .slice D4 nd0 nd0]
    have hb5 : Below w4.heap.size w4 (w4.alloc (.cells #[.slice A4 na0 na0, .slice B4 nb0 nb0, .slice C4 nc0 nc0, .slice D4 nd0 nd0] 27)) := (Below.refl _ _).alloc (Nat.le_refl _) _
    replace K0 := K0.on hb5
    replace hB := below_on hb5 hB
    replace ra4 := ra4.on hb5
    replace rb4 := rb4.on hb5
    replace rc4 := rc4.on hb5
    replace rd4 := rd4.on hb5
    generalize w4.heap.size = g4 at *
    generalize w4.alloc (.cells #[.slice A4 na0 na0, .slice B4 nb0 nb0, .slice C4 nc0 nc0, .slice D4 nd0 nd0] 27) = w5 at *
    with_reducible refine (iValidEnv_any _ _ _ _ _ _ _ _ _ _ _ _ la0 lb0 lc0 ld0 _ ra4 rb4 rc4 rd4 ha hb hc hd).mono ?_
    rintro e w6 ⟨rfl, hb6⟩
    replace hB := below_on hb6 hB
    replace K0 := K0.on hb6
    replace J0 := J0.on hb6
    replace ra4 := ra4.on hb6
    replace rb4 := rb4.on hb6
    replace rc4 := rc4.on hb6
    replace rd4 := rd4.on hb6
    have e0 := K0.cell 0
    have e1 := K0.cell 1
    have e2 := K0.cell 2
    have e3 := K0.cell 3
    have j0 := J0.cell 0
    have j1 := J0.cell 1
    have j2 := J0.cell 2
    have j3 := J0.cell 3
    simp only [List.getElem?_toArray, List.getElem?_cons_succ, List.getElem?_cons_zero] at e0 e1 e2 e3 j0 j1 j2 j3
    go_wp2_with fail
    go_region_held3 (fun w' => w'.cell? ⟨w.heap.size, 0, none⟩ = some (.slice A0 na0 ca0) ∧ w'.cell? ⟨w.heap.size, 1, none⟩ = some (.slice B0 nb0 cb0) ∧ w'.cell? ⟨w.heap.size, 2, none⟩ = some (.slice C0 nc0 cc0) ∧ w'.cell? ⟨w.heap.size, 3, none⟩ = some (.slice D0 nd0 cd0) ∧
        w'.cell? ⟨g4, 0, none⟩ = some (.slice A4 na0 na0) ∧ w'.cell? ⟨g4, 1, none⟩ = some (.slice B4 nb0 nb0) ∧ w'.cell? ⟨g4, 2, none⟩ = some (.slice C4 nc0 nc0) ∧ w'.cell? ⟨g4, 3, none⟩ = some (.slice D4 nd0 nd0) ∧ Below w6.heap.size w6 w')
      (first | exact ⟨e0, e1, e2, e3, j0, j1, j2, j3, (Below.refl _ _).drew⟩ | go_keep | (go_split_ands; exact ⟨cell_on2 hb7 ‹_›, cell_on2 hb7 ‹_›, cell_on2 hb7 ‹_›, cell_on2 hb7 ‹_›, cell_on2 hb7 ‹_›, cell_on2 hb7 ‹_›, cell_on2 hb7 ‹_›, cell_on2 hb7 ‹_›, below_on hb7 ‹_›⟩))
      (first | (go_at_call 17; go_split_ands; with_reducible refine (toEnv_any _ _ _ _ _ _ _ _ _ _ _ _ la0 lb0 lc0 ld0 _ (ra0.on (below_on ‹_› hB)) (rb0.on (below_on ‹_› hB)) (rc0.on (below_on ‹_› hB)) (rd0.on (below_on ‹_› hB)) ha hb hc hd).mono ?_; rintro e w7 ⟨A7, B7, C7, D7, rfl, ra7, rb7, rc7, rd7, hb7⟩) | (go_at_call 19; go_split_ands; with_reducible refine (eqEnv_yes _ _ _ _ _ _ _ _ _ _ _ _ _ _ _ _ _ _ _ _ _ _ _ _ la0 lb0 lc0 ld0 _ (ra4.on ‹_›) (rb4.on ‹_›) (rc4.on ‹_›) (rd4.on ‹_›) ‹_› ‹_› ‹_› ‹_› ha hb hc hd).mono ?_; rintro e w7 ⟨rfl, hb7⟩))
    go_split_ands
    go_wp2
    go_ret
    exact ⟨rfl, below_on ‹_› hB⟩
  · go_enter Try.func3, Try.ntmps3
    go_wp2_with fail
    with_reducible refine (szEnv_no _ _ _ _ _ _ _ _ _ _ _ _ _ _ ma mb mc md (by omega) (by omega) (by omega)).mono ?_
    rintro e w1 ⟨rfl, hb1⟩
    go_wp2
    go_ret
    exact ⟨rfl, below_on hb1 hB⟩

/-! ### From the walk to the statement -/
set_option maxRecDepth 100000 in
theorem lifted (os : Os) (started : os.Started) (H : Type) (enc : TypeId × Value → H) :
    ReturnsInHanded {} Try.checked os 3 .any (Rows.fnExactValidEnvelopeSpec.pre6 enc Try.prog Try.f3 Rows.fnExactValidEnvelopeRow.domain false) (Rows.fnExactValidEnvelopeSpec.post enc Try.prog Try.f3 false true false false) := by
  refine returnsInHanded_of_change (C := Try.checked) Try.own started (by kernel_rfl) Try.func3
    (ChangeSpec.witness6 (enc := enc) (C := Try.checked) false ⟨#[], #[.agg #[.slice none 0 0, .slice none 0 0, .slice none 0 0, .slice none 0 0]], []⟩ 8 (by kernel_rfl) (by kernel_rfl) (by kernel_rfl) (by kernel_rfl)) ?_
  intro W base args ds gs before hval0 hW hcnd _
  have hval : ∀ (j : Nat) t v, Try.f3.params[j]? = some t → args[j]? = some v → Value.okWide Try.prog W .any base t v := hval0
  have hW' := hW
  obtain ⟨p, q, hA0, hV, rfl, hfz, hnd⟩ := hW
  have hA : DataW.TrodAll enc Try.prog W 0 (fun _ => true) true Try.f3.params.toList args.toList ds p := hA0
  rw [Try.params3] at hA hval
  obtain ⟨v0, vs0, d0, ds0, p0, q0, hargs, rfl, rfl, h0, tr0⟩ := trodAll_cons hA
  obtain ⟨rfl, rfl, rfl⟩ := trodAll_nil tr0
  obtain rfl : args = #[v0] := by cases args; simp_all
  obtain ⟨rfl, rfl⟩ := trodVars_none hV
  have k0 := h0
  have lt0 : ∀ x ∈ p0, x.block < W.heap.size := by obtain ⟨m, hm⟩ := k0; exact DataW.trod_lt m _ _ _ hm
  obtain ⟨A0, na0, ca0, la0, B0, nb0, cb0, lb0, C0, nc0, cc0, lc0, D0, nd0, cd0, ld0, rfl, ra0, rb0, rc0, rd0, ga0, gb0, gc0, gd0⟩ := opEnv (hval 0 24 v0 rfl rfl) h0
  clear hA0 hval0
  refine (walk A0 B0 C0 D0 na0 ca0 nb0 cb0 nc0 cc0 nd0 cd0 la0 lb0 lc0 ld0 W ra0 rb0 rc0 rd0 ga0 gb0 gc0 gd0).mono fun e W' ⟨he, bel⟩ => ?_
  subst he
  exact ⟨_, rfl, _, _, _, [], _, [], hW', trodAll_mk1 (shut_bool Try.underlying4 _), (trodAll_cons_mk (Below.trod Try.laidOut (by kernel_rfl) (of_decide_eq_true (by kernel_rfl)) k0 bel lt0) trodAll_mk0), rfl, bel.frame _, fun h => by cases h⟩

theorem over : Rows.fnExactValidEnvelopeRow.holds Try.pinned (OpenSpec.ofChange Rows.fnExactValidEnvelopeSpec) :=
  OpenClaim.holds_of_wide 3 Try.f3 rfl rfl rfl rfl rfl rfl rfl ⟨rfl, rfl, rfl, rfl, rfl⟩ rfl rfl rfl rfl rfl (by kernel_rfl) Try.func3 (by kernel_rfl)
    (of_decide_eq_true (by kernel_rfl)) (by unfold Func.isWrapper; first | (rw [if_pos (by decide +kernel)]; kernel_rfl) | (rw [if_neg (by decide +kernel)]; exact ⟨rfl, rfl⟩))
    (fun os started H enc _ => lifted os started H enc)

theorem proved : Rows.FnExactValidEnvelopeSaid := over
end fnExactValidEnvelope
end Go.Proofs.Ytoaeclnhhciimaa
