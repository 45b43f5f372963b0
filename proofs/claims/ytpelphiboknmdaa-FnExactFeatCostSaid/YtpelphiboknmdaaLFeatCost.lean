/- The law of FeatCost returns true for every input: the program's FeatCost and the reference's return the same. No condition: every argument that can be read. -/
import Derived.Test.YtpelphiboknmdaaSc
import Derived.Test.YtpelphiboknmdaaAr
import Derived.ProofKit
import Derived.Deep.RegionHeld3
import Derived.ChangeOld
namespace Go.Proofs.Ytpelphiboknmdaa
open Go.ChangeShapes Go.WideShapes Go.ChangeAt Go.RowKit
namespace fnExactFeatCost
set_option linter.unusedVariables false
theorem walk (x0 y0 z0 : Int) (x1 y1 z1 : Int) (w : World) (g0 : ok3 (x0, y0, z0)) (g1 : ok3 (x1, y1, z1)) :
    Calls Try.prog 4 #[.agg #[.int .i64 x0, .int .i64 y0, .int .i64 z0], .agg #[.int .i64 x1, .int .i64 y1, .int .i64 z1]] w fun e w' => e = .returned (.bool true) ∧ Below w.heap.size w w' := by
  obtain ⟨⟨e0, e1, e2⟩, q0, q1, q2⟩ := Cell3.two w x0 y0 z0 x1 y1 z1 23 23
  have hb0 : Below w.heap.size w ((w.alloc (.cells #[.int .i64 x0, .int .i64 y0, .int .i64 z0] 23)).alloc (.cells #[.int .i64 x1, .int .i64 y1, .int .i64 z1] 23)) := (by repeat (first | exact Below.refl _ _ | assumption | refine Below.drew ?_ | refine below_drewN ?_ _ | refine Below.alloc ?_ (by simp <;> omega) _ | refine Below.setCell ?_ (by simp <;> omega) _))
  go_enter Try.func4, Try.ntmps4
  go_wp2_with fail
  go_region_held3 (fun w' => w'.cell? ⟨w.heap.size, 0, none⟩ = some (.int .i64 x0) ∧ w'.cell? ⟨w.heap.size, 1, none⟩ = some (.int .i64 y0) ∧ w'.cell? ⟨w.heap.size, 2, none⟩ = some (.int .i64 z0) ∧ w'.cell? ⟨w.heap.size + 1, 0, none⟩ = some (.int .i64 x1) ∧ w'.cell? ⟨w.heap.size + 1, 1, none⟩ = some (.int .i64 y1) ∧ w'.cell? ⟨w.heap.size + 1, 2, none⟩ = some (.int .i64 z1) ∧ Below w.heap.size w w')
    (first | exact ⟨e0, e1, e2, q0, q1, q2, hb0.drew⟩ | go_keep | (go_split_ands; exact ⟨cell_on2 hb1 ‹_›, cell_on2 hb1 ‹_›, cell_on2 hb1 ‹_›, cell_on2 hb1 ‹_›, cell_on2 hb1 ‹_›, cell_on2 hb1 ‹_›, below_on hb1 ‹_›⟩))
    (first | (go_at_call 16; with_reducible refine (toFeat_any _ _ _ _).mono ?_; rintro e w1 ⟨rfl, hb1⟩) | (go_at_call 18; with_reducible refine (sFeatCost_any _ _ _ _ _ _ _).mono ?_; rintro e w1 ⟨rfl, hb1⟩))
  go_split_ands
  clear e0 e1 e2 q0 q1 q2 hb0
  have e0 := ‹w1.cell? ⟨w.heap.size, 0, none⟩ = some (.int .i64 x0)›
  have e1 := ‹w1.cell? ⟨w.heap.size, 1, none⟩ = some (.int .i64 y0)›
  have e2 := ‹w1.cell? ⟨w.heap.size, 2, none⟩ = some (.int .i64 z0)›
  have q0 := ‹w1.cell? ⟨w.heap.size + 1, 0, none⟩ = some (.int .i64 x1)›
  have q1 := ‹w1.cell? ⟨w.heap.size + 1, 1, none⟩ = some (.int .i64 y1)›
  have q2 := ‹w1.cell? ⟨w.heap.size + 1, 2, none⟩ = some (.int .i64 z1)›
  have hb0 := ‹Below w.heap.size w w1›
  go_wp2_with fail
  go_region_held3 (fun w' => w'.cell? ⟨w.heap.size, 0, none⟩ = some (.int .i64 x0) ∧ w'.cell? ⟨w.heap.size, 1, none⟩ = some (.int .i64 y0) ∧ w'.cell? ⟨w.heap.size, 2, none⟩ = some (.int .i64 z0) ∧ w'.cell? ⟨w.heap.size + 1, 0, none⟩ = some (.int .i64 x1) ∧ w'.cell? ⟨w.heap.size + 1, 1, none⟩ = some (.int .i64 y1) ∧ w'.cell? ⟨w.heap.size + 1, 2, none⟩ = some (.int .i64 z1) ∧ Below w.heap.size w w')
    (first | exact ⟨e0, e1, e2, q0, q1, q2, hb0.drew⟩ | go_keep | (go_split_ands; exact ⟨cell_on2 hb1 ‹_›, cell_on2 hb1 ‹_›, cell_on2 hb1 ‹_›, cell_on2 hb1 ‹_›, cell_on2 hb1 ‹_›, cell_on2 hb1 ‹_›, below_on hb1 ‹_›⟩))
    (first | (go_at_call 16; with_reducible refine (toFeat_any _ _ _ _).mono ?_; rintro e w1 ⟨rfl, hb1⟩) | (go_at_call 19; with_reducible refine (iFeatCost_any _ _ _ _ _ _ _).mono ?_; rintro e w1 ⟨rfl, hb1⟩))
  go_split_ands
  go_wp2
  go_ret
  exact ⟨rfl, ‹Below w.heap.size w w1›⟩

/-! ### From the walk to the statement -/
set_option maxRecDepth 100000 in
theorem lifted (os : Os) (started : os.Started) (H : Type) (enc : TypeId × Value → H) :
    ReturnsInHanded {} Try.checked os 4 .any (Rows.fnExactFeatCostSpec.pre6 enc Try.prog Try.f4 Rows.fnExactFeatCostRow.domain false) (Rows.fnExactFeatCostSpec.post enc Try.prog Try.f4 false true false false) := by
  refine returnsInHanded_of_change (C := Try.checked) Try.own started (by kernel_rfl) Try.func4
    (ChangeSpec.witness6 (enc := enc) (C := Try.checked) false ⟨#[], #[.agg #[.int .i64 0, .int .i64 0, .int .i64 0], .agg #[.int .i64 0, .int .i64 0, .int .i64 0]], []⟩ 8 (by kernel_rfl) (by kernel_rfl) (by kernel_rfl) (by kernel_rfl)) ?_
  intro W base args ds gs before hval0 hW hcnd _
  have hval : ∀ (j : Nat) t v, Try.f4.params[j]? = some t → args[j]? = some v → Value.okWide Try.prog W .any base t v := hval0
  have hW' := hW
  obtain ⟨p, q, hA0, hV, rfl, hfz, hnd⟩ := hW
  have hA : DataW.TrodAll enc Try.prog W 0 (fun _ => true) true Try.f4.params.toList args.toList ds p := hA0
  rw [Try.params4] at hA hval
  obtain ⟨v0, vs0, d0, ds0, p0, q0, hargs, rfl, rfl, h0, r0⟩ := trodAll_cons hA
  obtain ⟨v1, vs1, d1, ds1, p1, q1, rfl, rfl, rfl, h1, r1⟩ := trodAll_cons r0
  obtain ⟨rfl, rfl, rfl⟩ := trodAll_nil r1
  obtain rfl : args = #[v0, v1] := by cases args; simp_all
  obtain ⟨rfl, rfl⟩ := trodVars_none hV
  have k0 := h0
  have lt0 : ∀ x ∈ p0, x.block < W.heap.size := by obtain ⟨m, hm⟩ := k0; exact DataW.trod_lt m _ _ _ hm
  obtain ⟨x0, y0, z0, rfl, g0⟩ := opFeat (hval 0 23 v0 rfl rfl) h0
  have k1 := h1
  have lt1 : ∀ x ∈ p1, x.block < W.heap.size := by obtain ⟨m, hm⟩ := k1; exact DataW.trod_lt m _ _ _ hm
  obtain ⟨x1, y1, z1, rfl, g1⟩ := opFeat (hval 1 23 v1 rfl rfl) h1
  clear hA0 hval0
  refine (walk x0 y0 z0 x1 y1 z1 W g0 g1).mono fun e W' ⟨he, bel⟩ => ?_
  subst he
  exact ⟨_, rfl, _, _, _, [], _, [], hW', trodAll_mk1 (shut_bool Try.underlying4 _), (trodAll_cons_mk (Below.trod Try.laidOut (by kernel_rfl) (of_decide_eq_true (by kernel_rfl)) k0 bel lt0) (trodAll_cons_mk (Below.trod Try.laidOut (by kernel_rfl) (of_decide_eq_true (by kernel_rfl)) k1 bel lt1) trodAll_mk0)), rfl, bel.frame _, fun h => by cases h⟩

theorem over : Rows.fnExactFeatCostRow.holds Try.pinned (OpenSpec.ofChange Rows.fnExactFeatCostSpec) :=
  OpenClaim.holds_of_wide 4 Try.f4 rfl rfl rfl rfl rfl rfl rfl ⟨rfl, rfl, rfl, rfl, rfl⟩ rfl rfl rfl rfl rfl (by kernel_rfl) Try.func4 (by kernel_rfl)
    (of_decide_eq_true (by kernel_rfl)) (by unfold Func.isWrapper; first | (rw [if_pos (by decide +kernel)]; kernel_rfl) | (rw [if_neg (by decide +kernel)]; exact ⟨rfl, rfl⟩))
    (fun os started H enc _ => lifted os started H enc)

theorem proved : Rows.FnExactFeatCostSaid := over
end fnExactFeatCost
end Go.Proofs.Ytpelphiboknmdaa
