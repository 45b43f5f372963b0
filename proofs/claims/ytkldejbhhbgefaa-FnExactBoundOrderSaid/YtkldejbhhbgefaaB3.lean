/- slices.SortStableFunc over numbers of lists: whole. -/
import Derived.Test.YtkldejbhhbgefaaB2
import Derived.Deep.Cut
import Derived.Deep.CutRange
import Derived.Deep.RegionHeld3
import Derived.IntWalk
namespace Go.Proofs.Ytkldejbhhbgefaa
open Go.ChangeShapes Go.WideShapes Go.ChangeAt Go.RowKit
set_option linter.unusedVariables false
set_option linter.unusedSimpArgs false
theorem symMergeO_any {lb gp gb cb : Nat} {bs : List Int} (g n c base : Nat) (hn : n ≤ 1000) : ∀ (N : Nat) (L A B R : List (Fin lb)) (a m b : Nat) (w : World), w.ownsRow base 2 1 (.slice (some ⟨g, 0, none⟩) n c) n ((L ++ (A ++ (B ++ R))).flatMap cO) → L.length = a → a + A.length = m → m + B.length = b → 0 < A.length → 0 < B.length → A.length + B.length < N → Sd (kyO bs) tgO A → Sd (kyO bs) tgO B → Tg tgO A B → base ≤ w.heap.size → Hid (BOk w base gp gb lb cb bs) → Calls Try.prog 110 #[.slice (some ⟨g, 0, none⟩) n c, .int .i64 (a : Int), .int .i64 (m : Int), .int .i64 (b : Int), .func (.func 54) #[] #[.pointer (some ⟨gp, 0, none⟩)]] w (fun e w' => e = .returned (.tuple #[]) ∧ ∃ C, Hid (w'.ownsRow base 2 1 (.slice (some ⟨g, 0, none⟩) n c) n ((L ++ (C ++ R)).flatMap cO)) ∧ Sd (kyO bs) tgO C ∧ C.Perm (A ++ B) ∧ Below base w w')
  | 0, L, A, B, R, a, m, b, w, _, _, _, _, _, _, hN, _, _, _, _, _ => by omega
  | N + 1, L, A, B, R, a, m, b, w, ho, hL, hm, hb, hA, hB, hN, sA, sB, tg, hbs, HBW => by
    by_cases h1 : A.length = 1
    · obtain ⟨x, rfl⟩ : ∃ x, A = [x] := List.length_eq_one_iff.1 h1
      exact sm1O_any g n c base a m b L x B R w ho hL hm hb sB tg hn hbs HBW
    · by_cases h2 : B.length = 1
      · obtain ⟨y, rfl⟩ : ∃ y, B = [y] := List.length_eq_one_iff.1 h2
        exact sm2O_any g n c base a m b L A y R w ho hL hm hb h1 sA tg hn hbs HBW
      · exact sm3O_any (A.length + B.length) g n c base a m b (fun L' A' B' R' a' m' b' w' k1 k2 k3 k4 k5 k6 k7 k8 k9 k10 k11 k12 => symMergeO_any g n c base hn N L' A' B' R' a' m' b' w' k1 k2 k3 k4 k5 k6 (by omega) k8 k9 k10 k11 k12) L A B R w ho hL hm hb (by omega) (by omega) rfl sA sB tg hn hbs HBW
set_option maxRecDepth 100000 in
set_option maxHeartbeats 8000000 in
theorem insertionSortO_any {lb gp gb cb : Nat} {bs : List Int} (g n c base a b : Nat) (L A R : List (Fin lb)) (w : World) (ho : w.ownsRow base 2 1 (.slice (some ⟨g, 0, none⟩) n c) n ((L ++ (A ++ R)).flatMap cO)) (hL : L.length = a) (hA : a + A.length = b) (tg : A.Pairwise fun x y => tgO x < tgO y) (hn : n ≤ 1000) (hbs : base ≤ w.heap.size) (HBW : Hid (BOk w base gp gb lb cb bs)) :
    Calls Try.prog 109 #[.slice (some ⟨g, 0, none⟩) n c, .int .i64 (a : Int), .int .i64 (b : Int), .func (.func 54) #[] #[.pointer (some ⟨gp, 0, none⟩)]] w (fun e w' => e = .returned (.tuple #[]) ∧ ∃ C, Hid (w'.ownsRow base 2 1 (.slice (some ⟨g, 0, none⟩) n c) n ((L ++ (C ++ R)).flatMap cO)) ∧ Sd (kyO bs) tgO C ∧ C.Perm A ∧ Below base w w') := by
  have hlen : a + A.length + R.length = n := by
    have := ho.1; rw [flat_len cO_len] at this; simp only [List.length_append] at this; omega
  have hbw0 := fun {wr : World} (h : Below base w wr) => hbw0' hbs h
  have hg0 : base ≤ g := (ho.lt g rfl).1
  have HO := Lib.hid ho
  have HL := Lib.hid hL
  have HT := Lib.hid tg
  obtain ⟨q, hq⟩ : ∃ q, A.length = q := ⟨_, rfl⟩
  have HQ := Lib.hid hq
  rw [hq] at hA hlen
  have o1 : IntKind.i64.wrap ((a : Int) + 1) = ((a + 1 : Nat) : Int) := by rw [IntWalk.i64_in _ (by omega)]; omega
  have HI : Hid (∃ C D, w.ownsRow base 2 1 (.slice (some ⟨g, 0, none⟩) n c) n ((L ++ (C ++ (D ++ R))).flatMap cO) ∧ Sd (kyO bs) tgO C ∧ C.Perm (A.take (1 - 0)) ∧ D = A.drop (1 - 0) ∧ C.length = min 1 q) := by
    refine ⟨A.take 1, A.drop 1, ?_, ?_, List.Perm.refl _, rfl, by rw [List.length_take, hq]⟩
    · rw [← List.append_assoc (A.take 1), List.take_append_drop]; exact ho
    · match A with
      | [] => exact List.Pairwise.nil
      | x :: _ => exact List.pairwise_singleton _ _
  clear ho hL tg hq
  go_enter Try.func109, Try.ntmps109
  go_wp2_with fail
  clear o1
  go_loopw [8] (fun i wr => ∃ k t : Nat, i = .int .i64 (k : Int) ∧ a + t = k ∧ 1 ≤ t ∧ (t ≤ q ∨ t = 1) ∧ Below base w wr ∧ Hid (∃ C D, wr.ownsRow base 2 1 (.slice (some ⟨g, 0, none⟩) n c) n ((L ++ (C ++ (D ++ R))).flatMap cO) ∧ Sd (kyO bs) tgO C ∧ C.Perm (A.take t) ∧ D = A.drop t ∧ C.length = min t q)) (fun i _ => b - (intOf i).toNat)
  case atStart => exact ⟨a + 1, 1, rfl, rfl, Nat.le_refl _, .inr rfl, Below.refl _ _, HI.out⟩
  case round =>
    clear HI HO
    obtain ⟨k, t, rfl, hkt, ht1, htq, hbw, hI⟩ := hrel
    by_cases hlt : k < b
    · obtain ⟨C, D, hO, sC, pC, hD, lC⟩ := hI.out
      have lC' : C.length = t := by omega
      obtain ⟨y, hy⟩ : ∃ y, A[t]? = some y := ⟨_, List.getElem?_eq_getElem (by rw [HQ.out]; omega)⟩
      have HTY : Hid (Tg tgO C [y]) := by
        intro x hx z hz
        simp only [List.mem_singleton] at hz
        subst hz
        obtain ⟨j, hj⟩ := List.getElem?_of_mem (pC.mem_iff.1 hx)
        have hjt : j < t := by have := (List.getElem?_eq_some_iff.1 hj).1; rw [List.length_take] at this; omega
        rw [List.getElem?_take_of_lt hjt] at hj
        obtain ⟨g1, rfl⟩ := List.getElem?_eq_some_iff.1 hj
        obtain ⟨g2, rfl⟩ := List.getElem?_eq_some_iff.1 hy
        exact (List.pairwise_iff_getElem.1 HT.out) j t g1 g2 hjt
      have HB0 : Hid (wr.ownsRow base 2 1 (.slice (some ⟨g, 0, none⟩) n c) n ((bubR L y C (A.drop (t + 1) ++ R) t).flatMap cO)) := by
        show World.ownsRow _ _ _ _ _ _ _
        unfold bubR
        rw [List.take_of_length_le (by omega), List.drop_of_length_le (by omega), List.nil_append]
        rw [hD, show A.drop t = y :: A.drop (t + 1) from by obtain ⟨h, rfl⟩ := List.getElem?_eq_some_iff.1 hy; exact (List.getElem_cons_drop h).symm] at hO
        exact hO
      have HSC := Lib.hid sC
      have HPC := Lib.hid pC
      have HLC := Lib.hid lC'
      have HY := Lib.hid hy
      have i1 : (k : Int) < (b : Int) := by omega
      clear hI hO sC pC hD lC lC' hy
      obtain ⟨wo, rfl⟩ : ∃ W, W = wr := ⟨_, rfl⟩
      go_wp2_with fail
      go_loopw [9] (fun i wr => ∃ j u : Nat, i = .int .i64 (j : Int) ∧ a + u = j ∧ u ≤ t ∧ Below base w wr ∧ Hid (wr.ownsRow base 2 1 (.slice (some ⟨g, 0, none⟩) n c) n ((bubR L y C (A.drop (t + 1) ++ R) u).flatMap cO)) ∧ Hid (u = C.length ∨ ∃ z, C[u]? = some z ∧ kyO bs y < kyO bs z)) (fun i _ => (intOf i).toNat)
      case atStart => exact ⟨k, t, rfl, hkt, Nat.le_refl _, hbw, HB0.out, .inl HLC.out.symm⟩
      case round =>
        clear HB0 hbw
        obtain ⟨j, u, rfl, hju, hut, hbw, hO, h2⟩ := hrel
        have hgw : g < wr.heap.size := (hO.out.lt g rfl).2
        by_cases hu0 : u = 0
        · have i2 : ¬ (a : Int) < (j : Int) := by omega
          have i2d : decide ((a : Int) < (j : Int)) = false := decide_eq_false i2
          have i2n : ¬ a < j := by omega
          have HCC := Lib.hid (sd_one' HSC.out HTY.out (Nat.zero_le _) (.inl rfl) (by rw [← hu0]; exact h2.out))
          subst hu0
          go_wp2_with fail
          go_quiet (fail)
          have hbw9 : Below base w (wr.drewN nq) := below_drewN hbw nq
          have hO9 : Hid ((wr.drewN nq).ownsRow base 2 1 (.slice (some ⟨g, 0, none⟩) n c) n ((bubR L y C (A.drop (t + 1) ++ R) 0).flatMap cO)) := hO.out
          generalize wr.drewN nq = wz at *
          go_wp2
          refine ⟨⟨k + 1, t + 1, by go_num, by omega, by omega, by omega, hbw9, C.take 0 ++ y :: C.drop 0, A.drop (t + 1), ?_, HCC.out, ?_, rfl, ?_⟩, by simp [intOf]; omega⟩
          · have h9 := hO9.out; unfold bubR at h9; rw [show L ++ (C.take 0 ++ y :: (C.drop 0 ++ (A.drop (t + 1) ++ R))) = L ++ ((C.take 0 ++ y :: C.drop 0) ++ (A.drop (t + 1) ++ R)) by simp] at h9; exact h9
          · refine List.perm_middle.trans ?_
            rw [List.take_append_drop, take_succ_of HY.out]
            exact (List.Perm.cons _ HPC.out).trans (List.perm_append_comm (l₁ := [y]) (l₂ := A.take t))
          · rw [List.length_append, List.length_cons, List.length_take, List.length_drop, HLC.out]; omega
        · obtain ⟨v, rfl⟩ : ∃ v, u = v + 1 := ⟨u - 1, by omega⟩
          obtain ⟨z0, hz⟩ : ∃ z, C[v]? = some z := ⟨_, List.getElem?_eq_getElem (by rw [HLC.out]; omega)⟩
          obtain ⟨e1, e2, e3⟩ := bubL_at (y := y) (R := A.drop (t + 1) ++ R) HL.out hz
          obtain ⟨jj, hj⟩ : ∃ jj, a + v = jj := ⟨_, rfl⟩
          rw [show a + v + 1 = j by omega] at e1 e3
          rw [hj] at e2 e3
          have S3 := Lib.hid e3
          have HZ := Lib.hid hz
          obtain ⟨p0, pf0⟩ := own_atO hO.out e1
          obtain ⟨r0, rf0⟩ := own_atO hO.out e2
          obtain ⟨x0, rfl⟩ : ∃ X, X = y := ⟨_, rfl⟩
          have i2 : (a : Int) < (j : Int) := by omega
          have i2n : a < j := by omega
          have i3 : (j : Int) < (n : Int) := by omega
          have i4 : (jj : Int) < (n : Int) := by omega
          have i5 : (0 : Int) ≤ (j : Int) := by omega
          have i6 : (0 : Int) ≤ (jj : Int) := by omega
          have o3 : IntKind.i64.wrap ((j : Int) - 1) = (jj : Int) := by rw [IntWalk.i64_in _ (by omega)]; omega
          clear e1 e2 e3 hz
          go_wp2_with fail
          go_region_held3 (fun w' => (∀ b o, b < wr.heap.size → w'.cell? ⟨b, o, none⟩ = wr.cell? ⟨b, o, none⟩) ∧ Below wr.heap.size wr w') (first | exact sk (Below.refl _ _).drew | (go_split_ands; exact sk (below_app ‹_› hbw2 (Below.size ‹_›)))) (first | (go_at_call 54; with_reducible refine (cmpB_any x0 z0 _ ((HBW.out.below hbw).below (Below.refl _ _).drew)).mono ?_; rintro e w2 ⟨rfl, hbw2⟩))
          go_split_ands
          have hb2 : Below wr.heap.size wr w2 := ‹Below wr.heap.size wr w2›
          have hbb := hbw.trans (hb2.mono (hbw0 hbw))
          have HO2 := Lib.hid (own_below hO.out hb2)
          by_cases hc : kyO bs x0 < kyO bs z0
          · rw [cmpV_lt1 hc]
            obtain ⟨wq, rfl⟩ : ∃ W, W = w2 := ⟨_, rfl⟩
            clear p0 r0 pf0 rf0 hO hgw
            obtain ⟨wr, hwr⟩ : ∃ W, W = wq := ⟨_, rfl⟩
            rw [← hwr] at HO2 hbb
            have hO := HO2
            have e1 : (bubR L x0 C (A.drop (t + 1) ++ R) (v + 1))[j]? = some x0 := by have := (bubL_at (y := x0) (R := A.drop (t + 1) ++ R) HL.out HZ.out).1; rwa [show a + v + 1 = j by omega] at this
            have e2 : (bubR L x0 C (A.drop (t + 1) ++ R) (v + 1))[jj]? = some z0 := by have := (bubL_at (y := x0) (R := A.drop (t + 1) ++ R) HL.out HZ.out).2.1; rwa [hj] at this
            obtain ⟨p0, pf0⟩ := own_atO hO.out e1
            obtain ⟨r0, rf0⟩ := own_atO hO.out e2
            have hgw : g < wr.heap.size := (hO.out.lt g rfl).2
            have n1 : ¬ jj = j := by omega
            have n5 : ¬ j = jj := by omega
            have k3 : (jj : Int) < (n : Int) := by omega
            have k4 : (j : Int) < (n : Int) := by omega
            have k5 : (0 : Int) ≤ (jj : Int) := by omega
            have k6 : (0 : Int) ≤ (j : Int) := by omega
            have hll : Hid ((bubR L x0 C (A.drop (t + 1) ++ R) (v + 1)).length = n) := by show _ = _; have := hO.out.1; rw [flat_len cO_len] at this; omega
            clear e1 e2
            subst hwr
            go_wp2_with fail
            go_region
            go_wp2
            have h9 := putSO (putSO hO.out (i := j) (by rw [hll.out]; omega) z0) (i := jj) (by rw [List.length_set, hll.out]; omega) x0
            rw [S3.out] at h9
            exact ⟨⟨jj, v, rfl, by omega, by omega, (by repeat (first | exact Below.refl _ _ | assumption | refine Below.drew ?_ | refine below_drewN ?_ _ | refine Below.alloc ?_ (by first | omega | (simp <;> omega)) _ | refine Below.setCell ?_ (by first | omega | (simp <;> omega)) _)), h9, .inr ⟨z0, HZ.out, hc⟩⟩, by simp [intOf]; omega⟩
          · have HCC := Lib.hid (sd_one' HSC.out HTY.out (t := v + 1) (by rw [HLC.out]; omega) (.inr ⟨z0, by rw [Nat.add_sub_cancel]; exact HZ.out, hc⟩) h2.out)
            rcases cmpV_ge1 hc with hv | hv
            all_goals
              rw [hv]
              go_wp2
              refine ⟨⟨k + 1, t + 1, by go_num, by omega, by omega, by omega, hbb, C.take (v + 1) ++ x0 :: C.drop (v + 1), A.drop (t + 1), ?_, HCC.out, ?_, rfl, ?_⟩, by simp [intOf]; omega⟩
              · have h9 := HO2.out; unfold bubR at h9; rw [show L ++ (C.take (v + 1) ++ x0 :: (C.drop (v + 1) ++ (A.drop (t + 1) ++ R))) = L ++ ((C.take (v + 1) ++ x0 :: C.drop (v + 1)) ++ (A.drop (t + 1) ++ R)) by simp] at h9; exact h9
              · refine List.perm_middle.trans ?_
                rw [List.take_append_drop, take_succ_of HY.out]
                exact (List.Perm.cons _ HPC.out).trans (List.perm_append_comm (l₁ := [x0]) (l₂ := A.take t))
              · rw [List.length_append, List.length_cons, List.length_take, List.length_drop, HLC.out]; omega
    · have hI2 := hI.out
      obtain ⟨C, D, hO, sC, pC, hD, lC⟩ := hI2
      have i1 : ¬ (k : Int) < (b : Int) := by omega
      have hqt : q ≤ t := by omega
      rw [List.take_of_length_le (by rw [HQ.out]; exact hqt)] at pC
      rw [hD, List.drop_of_length_le (by rw [HQ.out]; exact hqt), List.nil_append] at hO
      have HO9 := Lib.hid hO
      clear hI hO
      go_wp2
      exact bodyPost_end (v := .tuple #[]) (by simp [results, Try.results109, go_sem]) rfl ⟨rfl, C, by show World.ownsRow _ _ _ _ _ _ _; simpa using HO9.out, sC, pC, hbw⟩
theorem insertion0O_any {gp : Nat} (A : Option Addr) (c : Nat) (w : World) : Calls Try.prog 109 #[.slice A 0 c, .int .i64 0, .int .i64 0, .func (.func 54) #[] #[.pointer (some ⟨gp, 0, none⟩)]] w fun e w' => e = .returned (.tuple #[]) ∧ w = w' := by
  go_enter Try.func109, Try.ntmps109
  go_wp2
  refine wp_loop_once ?_
  go_wp2
  exact bodyPost_end (v := .tuple #[]) (by simp [results, Try.results109, go_sem]) rfl ⟨rfl, rfl⟩
theorem stable0O_any {gp : Nat} (A : Option Addr) (c : Nat) (w : World) : Calls Try.prog 89 #[.slice A 0 c, .int .i64 0, .func (.func 54) #[] #[.pointer (some ⟨gp, 0, none⟩)]] w fun e w' => e = .returned (.tuple #[]) ∧ w = w' := by
  go_enter Try.func89, Try.ntmps89
  go_wp2_with fail
  refine wp_loop_once ?_
  go_wp2_with (first | (go_at_call 109; with_reducible refine (insertion0O_any _ _ _).mono ?_; rintro e w' ⟨rfl, rfl⟩))
  refine wp_loop_once ?_
  go_wp2
  exact bodyPost_end (v := .tuple #[]) (by simp [results, Try.results89, go_sem]) rfl ⟨rfl, rfl⟩
set_option maxRecDepth 100000 in
set_option maxHeartbeats 8000000 in
theorem stableO_any {lb gp gb cb : Nat} {bs : List Int} (g n c base : Nat) (xs : List (Fin lb)) (w : World) (ho : w.ownsRow base 2 1 (.slice (some ⟨g, 0, none⟩) n c) n ((xs).flatMap cO)) (tg : xs.Pairwise fun x y => tgO x < tgO y) (hn : n ≤ 40) (hbs : base ≤ w.heap.size) (HBW : Hid (BOk w base gp gb lb cb bs)) :
    Calls Try.prog 89 #[.slice (some ⟨g, 0, none⟩) n c, .int .i64 (n : Int), .func (.func 54) #[] #[.pointer (some ⟨gp, 0, none⟩)]] w (fun e w' => e = .returned (.tuple #[]) ∧ ∃ C, Hid (w'.ownsRow base 2 1 (.slice (some ⟨g, 0, none⟩) n c) n ((C).flatMap cO)) ∧ Sd (kyO bs) tgO C ∧ C.Perm xs ∧ Below base w w') := by
  have hlen : xs.length = n := by
    have := ho.1; rw [flat_len cO_len] at this; omega
  have hbw0 := fun {wr : World} (h : Below base w wr) => hbw0' hbs h
  have HLN := Lib.hid hlen
  have HT := Lib.hid tg
  have HTK : Hid (∀ k l : Nat, ((xs.drop k).take l).Pairwise fun x y => tgO x < tgO y) := fun k l => List.Pairwise.sublist (List.take_sublist _ _) (List.Pairwise.sublist (List.drop_sublist _ _) HT.out)
  have HTT : Hid (∀ C D : List (Fin lb), C.Perm (xs.take 20) → D.Perm (xs.drop 20) → Tg tgO C D) := by
    intro C D pC pD x hx y hy
    have h1 : (xs.take 20 ++ xs.drop 20).Pairwise fun x y => tgO x < tgO y := by rw [List.take_append_drop]; exact HT.out
    exact (List.pairwise_append.1 h1).2.2 x (pC.mem_iff.1 hx) y (pD.mem_iff.1 hy)
  have HI : Hid (∃ C D, w.ownsRow base 2 1 (.slice (some ⟨g, 0, none⟩) n c) n ((C ++ D).flatMap cO) ∧ Sd (kyO bs) tgO C ∧ C.Perm (xs.take 0) ∧ D = xs.drop 0) := ⟨[], xs, by simpa using ho, List.Pairwise.nil, by simp, rfl⟩
  clear ho tg hlen
  by_cases h20 : n < 20
  · go_enter Try.func89, Try.ntmps89
    have i1 : ¬ (20 : Int) ≤ (n : Int) := by omega
    have i1d : decide ((20 : Int) ≤ (n : Int)) = false := decide_eq_false i1
    have i2 : ¬ (20 : Int) < (n : Int) := by omega
    have i2d : decide ((20 : Int) < (n : Int)) = false := decide_eq_false i2
    obtain ⟨C0, D0, hO, _, pC0, hD0⟩ := HI.out
    have hC0 : C0 = [] := by simpa using pC0
    rw [hC0, hD0, List.drop_zero, List.nil_append] at hO
    have HX : Hid (w.ownsRow base 2 1 (.slice (some ⟨g, 0, none⟩) n c) n ((([] : List (Fin lb)) ++ (xs ++ [])).flatMap cO)) := by show World.ownsRow _ _ _ _ _ _ _; simpa using hO
    clear hO pC0 hC0 hD0 HI
    go_wp2_with fail
    refine wp_loop_once ?_
    go_wp2_with fail
    have IC := insertionSortO_any g n c base 0 n [] xs [] w HX.out rfl (by rw [HLN.out]; omega) HT.out (by omega) hbs HBW
    rw [show ((0 : Nat) : Int) = 0 from rfl] at IC
    with_reducible refine IC.mono ?_
    rintro e w2 ⟨rfl, C, ho2, sC, pC, hb2⟩
    have O2 : Hid (w2.ownsRow base 2 1 (.slice (some ⟨g, 0, none⟩) n c) n ((C).flatMap cO)) := by show World.ownsRow _ _ _ _ _ _ _; simpa using ho2.out
    clear ho2
    go_wp2_with fail
    refine wp_loop_once ?_
    go_wp2
    exact bodyPost_end (v := .tuple #[]) (by simp [results, Try.results89, go_sem]) rfl ⟨rfl, C, O2.out, sC, pC, hb2⟩
  · go_enter Try.func89, Try.ntmps89
    go_wp2_with fail
    go_loopw [7, 8] (fun i j wr => ∃ t : Nat, i = .int .i64 (t : Int) ∧ j = .int .i64 ((t + 20 : Nat) : Int) ∧ (t = 0 ∨ t = 20 ∨ t = 40) ∧ t ≤ n ∧ Below base w wr ∧ Hid (∃ C1 C2 D, wr.ownsRow base 2 1 (.slice (some ⟨g, 0, none⟩) n c) n ((C1 ++ (C2 ++ D)).flatMap cO) ∧ Sd (kyO bs) tgO C1 ∧ Sd (kyO bs) tgO C2 ∧ C1.Perm (xs.take (min t 20)) ∧ C2.Perm ((xs.drop 20).take (t - 20)) ∧ D = xs.drop t)) (fun _ j _ => 100 - (intOf j).toNat)
    case atStart =>
      obtain ⟨C0, D0, hO, _, pC0, hD0⟩ := HI.out
      have hC0 : C0 = [] := by simpa using pC0
      exact ⟨0, rfl, rfl, .inl rfl, by omega, Below.refl _ _, [], [], D0, by subst hC0; simpa using hO, List.Pairwise.nil, List.Pairwise.nil, by simp, by simp, hD0⟩
    case round =>
      clear HI
      obtain ⟨t, rfl, rfl, ht, htn, hbw, hI⟩ := hrel
      have hbs2 := hbw0 hbw
      obtain ⟨C1, C2, D, hO, s1, s2, p1, p2, hD⟩ := hI.out
      have HO := Lib.hid hO
      clear hI hO
      by_cases hle : t + 20 ≤ n
      · have i1 : ((t + 20 : Nat) : Int) ≤ (n : Int) := by omega
        have i1' : (t : Int) + 20 ≤ (n : Int) := by omega
        have l1 : C1.length = min t 20 := by rw [p1.length_eq, List.length_take, HLN.out]; omega
        have l2 : C2.length = t - 20 := by rw [p2.length_eq, List.length_take, List.length_drop, HLN.out]; omega
        have HX : Hid (wr.ownsRow base 2 1 (.slice (some ⟨g, 0, none⟩) n c) n (((C1 ++ C2) ++ ((xs.drop t).take 20 ++ xs.drop (t + 20))).flatMap cO)) := by
          show World.ownsRow _ _ _ _ _ _ _
          rw [List.append_assoc, show (xs.drop t).take 20 ++ xs.drop (t + 20) = xs.drop t from by rw [← List.drop_drop]; exact List.take_append_drop _ _, ← hD]
          exact HO.out
        have o1 : IntKind.i64.wrap (((t + 20 : Nat) : Int) + 20) = ((t + 20 + 20 : Nat) : Int) := by rw [IntWalk.i64_in _ (by omega)]; omega
        obtain ⟨t2, ht2⟩ : ∃ t2, t + 20 = t2 := ⟨_, rfl⟩
        rw [ht2] at i1 o1
        rw [ht2]
        have i1'' : (t : Int) + 20 = (t2 : Int) := by omega
        go_wp2_with fail
        with_reducible refine (insertionSortO_any g n c base t t2 (C1 ++ C2) ((xs.drop t).take 20) (xs.drop (t + 20)) wr HX.out (by rw [List.length_append, l1, l2]; omega) (by rw [List.length_take, List.length_drop, HLN.out]; omega) (HTK.out t 20) (by omega) hbs2 (Lib.hid (HBW.out.below hbw))).mono ?_
        rintro e w2 ⟨rfl, C, ho2, sC, pC, hb2⟩
        have hb3 := hbw.trans hb2
        have HO2 : Hid (w2.ownsRow base 2 1 (.slice (some ⟨g, 0, none⟩) n c) n (((C1 ++ C2) ++ (C ++ xs.drop (t + 20))).flatMap cO)) := ho2
        clear ho2 hb2
        go_wp2
        rcases ht with rfl | rfl | rfl
        · have e1 : C1 = [] := List.eq_nil_of_length_eq_zero (by rw [l1]; rfl)
          have e2 : C2 = [] := List.eq_nil_of_length_eq_zero (by rw [l2])
          exact ⟨⟨20, by rw [← ht2], by go_num, .inr (.inl rfl), by omega, hb3, C, [], xs.drop 20, by have h9 := HO2.out; rw [e1, e2] at h9; simpa using h9, sC, List.Pairwise.nil, by simpa using pC, by simp, rfl⟩, by simp [intOf]; omega⟩
        · have e2 : C2 = [] := List.eq_nil_of_length_eq_zero (by rw [l2])
          exact ⟨⟨40, by rw [← ht2], by go_num, .inr (.inr rfl), by omega, hb3, C1, C, xs.drop 40, by have h9 := HO2.out; rw [e2] at h9; simpa using h9, s1, sC, p1, pC, rfl⟩, by simp [intOf]; omega⟩
        · omega
      · have i1 : ¬ ((t + 20 : Nat) : Int) ≤ (n : Int) := by omega
        have i1d : decide (((t + 20 : Nat) : Int) ≤ (n : Int)) = false := decide_eq_false i1
        have i1' : ¬ (t : Int) + 20 ≤ (n : Int) := by omega
        have i1d' : decide ((t : Int) + 20 ≤ (n : Int)) = false := decide_eq_false i1'
        have l1 : C1.length = min t 20 := by rw [p1.length_eq, List.length_take, HLN.out]; omega
        have l2 : C2.length = t - 20 := by rw [p2.length_eq, List.length_take, List.length_drop, HLN.out]; omega
        have HX : Hid (wr.ownsRow base 2 1 (.slice (some ⟨g, 0, none⟩) n c) n (((C1 ++ C2) ++ (xs.drop t ++ [])).flatMap cO)) := by show World.ownsRow _ _ _ _ _ _ _; rw [List.append_assoc, List.append_nil, ← hD]; exact HO.out
        have HTD : Hid ((xs.drop t).Pairwise fun x y => tgO x < tgO y) := List.Pairwise.sublist (List.drop_sublist _ _) HT.out
        go_wp2_with fail
        with_reducible refine (insertionSortO_any g n c base t n (C1 ++ C2) (xs.drop t) [] wr HX.out (by rw [List.length_append, l1, l2]; omega) (by rw [List.length_drop, HLN.out]; omega) HTD.out (by omega) hbs2 (Lib.hid (HBW.out.below hbw))).mono ?_
        rintro e w2 ⟨rfl, C, ho2, sC, pC, hb2⟩
        have hb3 := hbw.trans hb2
        have HE : Hid (∃ E1 E2, w2.ownsRow base 2 1 (.slice (some ⟨g, 0, none⟩) n c) n ((E1 ++ E2).flatMap cO) ∧ Sd (kyO bs) tgO E1 ∧ Sd (kyO bs) tgO E2 ∧ E1.Perm (xs.take 20) ∧ E2.Perm (xs.drop 20)) := by
          have h9 := ho2.out
          rcases ht with rfl | rfl | rfl
          · omega
          · have e2 : C2 = [] := List.eq_nil_of_length_eq_zero (by rw [l2])
            rw [e2] at h9
            exact ⟨C1, C, by simpa using h9, s1, sC, p1, pC⟩
          · have e3 : C = [] := List.eq_nil_of_length_eq_zero (by rw [pC.length_eq, List.length_drop, HLN.out]; omega)
            rw [e3] at h9
            refine ⟨C1, C2, by simpa using h9, s1, s2, p1, ?_⟩
            rw [List.take_of_length_le (by rw [List.length_drop, HLN.out]; omega)] at p2
            exact p2
        clear ho2 hb2 HO HX i1 i1d i1' i1d' l1 l2 s1 s2 p1 p2 sC pC
        go_wp2_with fail
        go_loopw [6] (fun i wr => ∃ s : Nat, i = .int .i64 (s : Int) ∧ Below base w wr ∧ ((s = 20 ∧ Hid (∃ E1 E2, wr.ownsRow base 2 1 (.slice (some ⟨g, 0, none⟩) n c) n ((E1 ++ E2).flatMap cO) ∧ Sd (kyO bs) tgO E1 ∧ Sd (kyO bs) tgO E2 ∧ E1.Perm (xs.take 20) ∧ E2.Perm (xs.drop 20))) ∨ (s = 40 ∧ Hid (∃ C, wr.ownsRow base 2 1 (.slice (some ⟨g, 0, none⟩) n c) n ((C).flatMap cO) ∧ Sd (kyO bs) tgO C ∧ C.Perm xs)))) (fun i _ => 100 - (intOf i).toNat)
        case atStart => exact ⟨20, rfl, hb3, .inl ⟨rfl, HE.out⟩⟩
        case round =>
          clear HE hb3 hbw hbs2
          obtain ⟨s, rfl, hbw, hS⟩ := hrel
          have hbs2 := hbw0 hbw
          rcases hS with ⟨rfl, hE⟩ | ⟨rfl, hF⟩
          rw [show ((20 : Nat) : Int) = 20 from rfl]
          rotate_left 1
          rw [show ((40 : Nat) : Int) = 40 from rfl]
          rotate_left 1
          · by_cases hn20 : n = 20
            · have i1 : ¬ (20 : Int) < (n : Int) := by omega
              have i1d : decide ((20 : Int) < (n : Int)) = false := decide_eq_false i1
              have i1n : ¬ ((20 : Nat) : Int) < (n : Int) := by omega
              obtain ⟨E1, E2, hO, s1, s2, p1, p2⟩ := hE.out
              have e2 : E2 = [] := List.eq_nil_of_length_eq_zero (by rw [p2.length_eq, List.length_drop, HLN.out]; omega)
              have HO := Lib.hid hO
              rw [List.take_of_length_le (by rw [HLN.out]; omega)] at p1
              clear hO hE hn20
              go_wp2
              exact bodyPost_end (v := .tuple #[]) (by simp [results, Try.results89, go_sem]) rfl ⟨rfl, E1, by show World.ownsRow _ _ _ _ _ _ _; have h9 := HO.out; rw [e2, List.append_nil] at h9; exact h9, s1, p1, hbw⟩
            · have i1 : (20 : Int) < (n : Int) := by omega
              have i1n : ((20 : Nat) : Int) < (n : Int) := by omega
              obtain ⟨wo, rfl⟩ : ∃ W, W = wr := ⟨_, rfl⟩
              go_wp2_with fail
              go_loopw [7, 8] (fun i j wr => ∃ z : Nat, i = .int .i64 (z : Int) ∧ j = .int .i64 ((z + 40 : Nat) : Int) ∧ Below base w wr ∧ ((z = 0 ∧ Hid (∃ E1 E2, wr.ownsRow base 2 1 (.slice (some ⟨g, 0, none⟩) n c) n ((E1 ++ E2).flatMap cO) ∧ Sd (kyO bs) tgO E1 ∧ Sd (kyO bs) tgO E2 ∧ E1.Perm (xs.take 20) ∧ E2.Perm (xs.drop 20))) ∨ (z = 40 ∧ n = 40 ∧ Hid (∃ C, wr.ownsRow base 2 1 (.slice (some ⟨g, 0, none⟩) n c) n ((C).flatMap cO) ∧ Sd (kyO bs) tgO C ∧ C.Perm xs)))) (fun _ j _ => 100 - (intOf j).toNat)
              case atStart => exact ⟨0, rfl, rfl, hbw, .inl ⟨rfl, hE.out⟩⟩
              case round =>
                clear hE hbw hbs2
                obtain ⟨z, rfl, rfl, hbw, hS⟩ := hrel
                have hbs2 := hbw0 hbw
                rcases hS with ⟨rfl, hE⟩ | ⟨rfl, h40, hF⟩
                rw [show ((0 : Nat) : Int) = 0 from rfl, show ((0 + 40 : Nat) : Int) = 40 from rfl]
                rotate_left 1
                rw [show ((40 : Nat) : Int) = 40 from rfl, show ((40 + 40 : Nat) : Int) = 80 from rfl]
                rotate_left 1
                · obtain ⟨E1, E2, hO, s1, s2, p1, p2⟩ := hE.out
                  have HX : Hid (wr.ownsRow base 2 1 (.slice (some ⟨g, 0, none⟩) n c) n ((([] : List (Fin lb)) ++ (E1 ++ (E2 ++ []))).flatMap cO)) := by show World.ownsRow _ _ _ _ _ _ _; simpa using hO
                  have l1 : E1.length = 20 := by rw [p1.length_eq, List.length_take, HLN.out]; omega
                  have l2 : E2.length = n - 20 := by rw [p2.length_eq, List.length_drop, HLN.out]
                  have hTg := HTT.out E1 E2 p1 p2
                  have hpe : (E1 ++ E2).Perm xs := by have h9 := p1.append p2; rwa [List.take_append_drop] at h9
                  clear hO hE
                  by_cases hn40 : n = 40
                  · have j1 : (40 : Int) ≤ (n : Int) := by omega
                    have H40 := Lib.hid hn40
                    clear hn40
                    go_wp2_with fail
                    have IC := symMergeO_any g n c base (by omega) 1000 [] E1 E2 [] 0 20 40 wr HX.out rfl (by rw [l1]) (by have := H40.out; rw [l2]; omega) (by omega) (by have := H40.out; omega) (by have := H40.out; omega) s1 s2 hTg hbs2 (Lib.hid (HBW.out.below hbw))
                    rw [show ((0 : Nat) : Int) = 0 from rfl, show ((20 : Nat) : Int) = 20 from rfl, show ((40 : Nat) : Int) = 40 from rfl] at IC
                    with_reducible refine IC.mono ?_
                    rintro e w3 ⟨rfl, C, ho3, sC, pC, hb3⟩
                    have hb4 := hbw.trans hb3
                    have HC : Hid (∃ C, w3.ownsRow base 2 1 (.slice (some ⟨g, 0, none⟩) n c) n ((C).flatMap cO) ∧ Sd (kyO bs) tgO C ∧ C.Perm xs) := ⟨C, by simpa using ho3.out, sC, pC.trans hpe⟩
                    clear ho3 hb3
                    go_wp2
                    exact ⟨⟨40, by go_num, by go_num, hb4, .inr ⟨rfl, H40.out, HC.out⟩⟩, by simp [intOf]⟩
                  · have j1 : ¬ (40 : Int) ≤ (n : Int) := by omega
                    have j1d : decide ((40 : Int) ≤ (n : Int)) = false := decide_eq_false j1
                    go_wp2_with fail
                    have IC := symMergeO_any g n c base (by omega) 1000 [] E1 E2 [] 0 20 n wr HX.out rfl (by rw [l1]) (by rw [l2]; omega) (by omega) (by omega) (by omega) s1 s2 hTg hbs2 (Lib.hid (HBW.out.below hbw))
                    rw [show ((0 : Nat) : Int) = 0 from rfl, show ((20 : Nat) : Int) = 20 from rfl] at IC
                    with_reducible refine IC.mono ?_
                    rintro e w3 ⟨rfl, C, ho3, sC, pC, hb3⟩
                    have hb4 := hbw.trans hb3
                    have HC : Hid (∃ C, w3.ownsRow base 2 1 (.slice (some ⟨g, 0, none⟩) n c) n ((C).flatMap cO) ∧ Sd (kyO bs) tgO C ∧ C.Perm xs) := ⟨C, by simpa using ho3.out, sC, pC.trans hpe⟩
                    clear ho3 hb3
                    go_wp2
                    exact ⟨⟨40, by go_num, hb4, .inr ⟨rfl, HC.out⟩⟩, by simp [intOf]⟩
                · have j1 : ¬ (80 : Int) ≤ (n : Int) := by omega
                  have j1d : decide ((80 : Int) ≤ (n : Int)) = false := decide_eq_false j1
                  have j2 : ¬ (60 : Int) < (n : Int) := by omega
                  have j2d : decide ((60 : Int) < (n : Int)) = false := decide_eq_false j2
                  go_wp2
                  exact ⟨⟨40, by go_num, hbw, .inr ⟨rfl, hF.out⟩⟩, by simp [intOf]⟩
          · have i1 : ¬ (40 : Int) < (n : Int) := by omega
            have i1d : decide ((40 : Int) < (n : Int)) = false := decide_eq_false i1
            have i1n : ¬ ((40 : Nat) : Int) < (n : Int) := by omega
            obtain ⟨C, hO, sC, pC⟩ := hF.out
            have HO := Lib.hid hO
            clear hO hF
            go_wp2
            exact bodyPost_end (v := .tuple #[]) (by simp [results, Try.results89, go_sem]) rfl ⟨rfl, C, HO.out, sC, pC, hbw⟩
theorem sortStableO_any {lb gp gb cb : Nat} {bs : List Int} (A : Option Addr) (n c base : Nat) (xs : List (Fin lb)) (w : World) (ho : w.ownsRow base 2 1 (.slice A n c) n (xs.flatMap cO)) (hl : xs.length = n) (tg : xs.Pairwise fun x y => tgO x < tgO y) (hn : n ≤ 40) (hbs : base ≤ w.heap.size) (HBW : Hid (BOk w base gp gb lb cb bs)) :
    Calls Try.prog 53 #[.slice A n c, .func (.func 54) #[] #[.pointer (some ⟨gp, 0, none⟩)]] w (fun e w' => e = .returned (.tuple #[]) ∧ ∃ C, Hid (w'.ownsRow base 2 1 (.slice A n c) n (C.flatMap cO)) ∧ Sd (kyO bs) tgO C ∧ C.Perm xs ∧ Below base w w') := by
  by_cases h0 : n = 0
  · subst h0
    have hx : xs = [] := List.eq_nil_of_length_eq_zero hl
    subst hx
    have HO := Lib.hid ho
    clear ho
    go_enter Try.func53, Try.ntmps53
    go_wp2_with (first | (go_at_call 89; with_reducible refine (stable0O_any _ _ _).mono ?_; rintro e w' ⟨rfl, rfl⟩))
    exact bodyPost_end (v := .tuple #[]) (by simp [results, Try.results53, go_sem]) rfl ⟨rfl, [], HO.out, List.Pairwise.nil, List.Perm.refl _, Below.refl _ _⟩
  · obtain ⟨g, rfl, _, _⟩ := own_at ho (by omega)
    have HO := Lib.hid ho
    have HT := Lib.hid tg
    clear ho tg
    go_enter Try.func53, Try.ntmps53
    go_wp2_with fail
    with_reducible refine (stableO_any g n c base xs w HO.out HT.out hn hbs HBW).mono ?_
    rintro e w2 ⟨rfl, C, ho2, sC, pC, hb2⟩
    have H2 := Lib.hid ho2.out
    clear ho2
    go_wp2
    exact bodyPost_end (v := .tuple #[]) (by simp [results, Try.results53, go_sem]) rfl ⟨rfl, C, H2.out, sC, pC, hb2⟩
end Go.Proofs.Ytkldejbhhbgefaa
