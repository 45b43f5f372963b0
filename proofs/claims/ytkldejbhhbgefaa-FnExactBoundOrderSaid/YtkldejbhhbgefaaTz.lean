/- slices.SortStableFunc over matches: whole. -/
import Derived.Test.YtkldejbhhbgefaaSz
import Derived.Deep.RegionHeld3
namespace Go.Proofs.Ytkldejbhhbgefaa
open Go.ChangeShapes Go.WideShapes Go.ChangeAt Go.RowKit
set_option linter.unusedVariables false
set_option linter.unusedSimpArgs false
theorem symMerge_any (g n c base : Nat) (hn : n ≤ 1000) : ∀ (N : Nat) (L A B R : List T2) (a m b : Nat) (w : World), w.ownsRow base 92 2 (.slice (some ⟨g, 0, none⟩) n c) n ((L ++ (A ++ (B ++ R))).flatMap c2) → L.length = a → a + A.length = m → m + B.length = b → 0 < A.length → 0 < B.length → A.length + B.length < N → Sd kM tM A → Sd kM tM B → Tg tM A B → base ≤ w.heap.size → Calls Try.prog 126 #[.slice (some ⟨g, 0, none⟩) n c, .int .i64 (a : Int), .int .i64 (m : Int), .int .i64 (b : Int), .func (.func 96) #[] #[]] w (fun e w' => e = .returned (.tuple #[]) ∧ ∃ C, Hid (w'.ownsRow base 92 2 (.slice (some ⟨g, 0, none⟩) n c) n ((L ++ (C ++ R)).flatMap c2)) ∧ Sd kM tM C ∧ C.Perm (A ++ B) ∧ Below base w w')
  | 0, L, A, B, R, a, m, b, w, _, _, _, _, _, _, hN, _, _, _, _ => by omega
  | N + 1, L, A, B, R, a, m, b, w, ho, hL, hm, hb, hA, hB, hN, sA, sB, tg, hbs => by
    by_cases h1 : A.length = 1
    · obtain ⟨x, rfl⟩ : ∃ x, A = [x] := List.length_eq_one_iff.1 h1
      exact sm1_any g n c base a m b L x B R w ho hL hm hb sB tg hn hbs
    · by_cases h2 : B.length = 1
      · obtain ⟨y, rfl⟩ : ∃ y, B = [y] := List.length_eq_one_iff.1 h2
        exact sm2_any g n c base a m b L A y R w ho hL hm hb h1 sA tg hn hbs
      · exact sm3_any (A.length + B.length) g n c base a m b (fun L' A' B' R' a' m' b' w' k1 k2 k3 k4 k5 k6 k7 k8 k9 k10 k11 => symMerge_any g n c base hn N L' A' B' R' a' m' b' w' k1 k2 k3 k4 k5 k6 (by omega) k8 k9 k10 k11) L A B R w ho hL hm hb (by omega) (by omega) rfl sA sB tg hn hbs
set_option maxRecDepth 100000 in
set_option maxHeartbeats 8000000 in
theorem insertionSort_any (g n c base a b : Nat) (L A R : List T2) (w : World) (ho : w.ownsRow base 92 2 (.slice (some ⟨g, 0, none⟩) n c) n ((L ++ (A ++ R)).flatMap c2)) (hL : L.length = a) (hA : a + A.length = b) (tg : A.Pairwise fun x y => tM x < tM y) (hn : n ≤ 1000) (hbs : base ≤ w.heap.size) :
    Calls Try.prog 125 #[.slice (some ⟨g, 0, none⟩) n c, .int .i64 (a : Int), .int .i64 (b : Int), .func (.func 96) #[] #[]] w (fun e w' => e = .returned (.tuple #[]) ∧ ∃ C, Hid (w'.ownsRow base 92 2 (.slice (some ⟨g, 0, none⟩) n c) n ((L ++ (C ++ R)).flatMap c2)) ∧ Sd kM tM C ∧ C.Perm A ∧ Below base w w') := by
  have hlen : a + A.length + R.length = n := by
    have := ho.1; rw [flat_len c2_len] at this; simp only [List.length_append] at this; omega
  have hbw0 := fun {wr : World} (h : Below base w wr) => hbw0' hbs h
  have hg0 : base ≤ g := (ho.lt g rfl).1
  have HO := Lib.hid ho
  have HL := Lib.hid hL
  have HT := Lib.hid tg
  obtain ⟨q, hq⟩ : ∃ q, A.length = q := ⟨_, rfl⟩
  have HQ := Lib.hid hq
  rw [hq] at hA hlen
  have o1 : IntKind.i64.wrap ((a : Int) + 1) = ((a + 1 : Nat) : Int) := by rw [IntWalk.i64_in _ (by omega)]; omega
  have HI : Hid (∃ C D, w.ownsRow base 92 2 (.slice (some ⟨g, 0, none⟩) n c) n ((L ++ (C ++ (D ++ R))).flatMap c2) ∧ Sd kM tM C ∧ C.Perm (A.take (1 - 0)) ∧ D = A.drop (1 - 0) ∧ C.length = min 1 q) := by
    refine ⟨A.take 1, A.drop 1, ?_, ?_, List.Perm.refl _, rfl, by rw [List.length_take, hq]⟩
    · rw [← List.append_assoc (A.take 1), List.take_append_drop]; exact ho
    · match A with
      | [] => exact List.Pairwise.nil
      | x :: _ => exact List.pairwise_singleton _ _
  clear ho hL tg hq
  go_enter Try.func125, Try.ntmps125
  go_wp2_with fail
  clear o1
  go_loopw [8] (fun i wr => ∃ k t : Nat, i = .int .i64 (k : Int) ∧ a + t = k ∧ 1 ≤ t ∧ (t ≤ q ∨ t = 1) ∧ Below base w wr ∧ Hid (∃ C D, wr.ownsRow base 92 2 (.slice (some ⟨g, 0, none⟩) n c) n ((L ++ (C ++ (D ++ R))).flatMap c2) ∧ Sd kM tM C ∧ C.Perm (A.take t) ∧ D = A.drop t ∧ C.length = min t q)) (fun i _ => b - (intOf i).toNat)
  case atStart => exact ⟨a + 1, 1, rfl, rfl, Nat.le_refl _, .inr rfl, Below.refl _ _, HI.out⟩
  case round =>
    clear HI HO
    obtain ⟨k, t, rfl, hkt, ht1, htq, hbw, hI⟩ := hrel
    by_cases hlt : k < b
    · obtain ⟨C, D, hO, sC, pC, hD, lC⟩ := hI.out
      have lC' : C.length = t := by omega
      obtain ⟨y, hy⟩ : ∃ y, A[t]? = some y := ⟨_, List.getElem?_eq_getElem (by rw [HQ.out]; omega)⟩
      have HTY : Hid (Tg tM C [y]) := by
        intro x hx z hz
        simp only [List.mem_singleton] at hz
        subst hz
        obtain ⟨j, hj⟩ := List.getElem?_of_mem (pC.mem_iff.1 hx)
        have hjt : j < t := by have := (List.getElem?_eq_some_iff.1 hj).1; rw [List.length_take] at this; omega
        rw [List.getElem?_take_of_lt hjt] at hj
        obtain ⟨g1, rfl⟩ := List.getElem?_eq_some_iff.1 hj
        obtain ⟨g2, rfl⟩ := List.getElem?_eq_some_iff.1 hy
        exact (List.pairwise_iff_getElem.1 HT.out) j t g1 g2 hjt
      have HB0 : Hid (wr.ownsRow base 92 2 (.slice (some ⟨g, 0, none⟩) n c) n ((bubR L y C (A.drop (t + 1) ++ R) t).flatMap c2)) := by
        show World.ownsRow _ _ _ _ _ _ _
        unfold bubR
        rw [List.take_of_length_le (by omega), List.drop_of_length_le (by omega), List.nil_append]
        rw [hD, show A.drop t = y :: A.drop (t + 1) from by obtain ⟨h, rfl⟩ := List.getElem?_eq_some_iff.1 hy; exact (List.getElem_cons_drop h).symm] at hO
        exact hO
      have HSC := Lib.hid sC
      have HPC := Lib.hid pC
      have HLC := Lib.hid lC'
      have HY := Lib.hid hy
      have i1 : (k : Int) < (b : Int) := by omega
      clear hI hO sC pC hD lC lC' hy
      obtain ⟨wo, rfl⟩ : ∃ W, W = wr := ⟨_, rfl⟩
      go_wp2_with fail
      go_loopw [9] (fun i wr => ∃ j u : Nat, i = .int .i64 (j : Int) ∧ a + u = j ∧ u ≤ t ∧ Below base w wr ∧ Hid (wr.ownsRow base 92 2 (.slice (some ⟨g, 0, none⟩) n c) n ((bubR L y C (A.drop (t + 1) ++ R) u).flatMap c2)) ∧ Hid (u = C.length ∨ ∃ z, C[u]? = some z ∧ kM y < kM z)) (fun i _ => (intOf i).toNat)
      case atStart => exact ⟨k, t, rfl, hkt, Nat.le_refl _, hbw, HB0.out, .inl HLC.out.symm⟩
      case round =>
        clear HB0 hbw
        obtain ⟨j, u, rfl, hju, hut, hbw, hO, h2⟩ := hrel
        have hgw : g < wr.heap.size := (hO.out.lt g rfl).2
        by_cases hu0 : u = 0
        · have i2 : ¬ (a : Int) < (j : Int) := by omega
          have i2d : decide ((a : Int) < (j : Int)) = false := decide_eq_false i2
          have i2n : ¬ a < j := by omega
          have HCC := Lib.hid (sd_one' HSC.out HTY.out (Nat.zero_le _) (.inl rfl) (by rw [← hu0]; exact h2.out))
          subst hu0
          go_wp2_with fail
          go_quiet (fail)
          have hbw9 : Below base w (wr.drewN nq) := below_drewN hbw nq
          have hO9 : Hid ((wr.drewN nq).ownsRow base 92 2 (.slice (some ⟨g, 0, none⟩) n c) n ((bubR L y C (A.drop (t + 1) ++ R) 0).flatMap c2)) := hO.out
          generalize wr.drewN nq = wz at *
          go_wp2
          refine ⟨⟨k + 1, t + 1, by go_num, by omega, by omega, by omega, hbw9, C.take 0 ++ y :: C.drop 0, A.drop (t + 1), ?_, HCC.out, ?_, rfl, ?_⟩, by simp [intOf]; omega⟩
          · have h9 := hO9.out; unfold bubR at h9; rw [show L ++ (C.take 0 ++ y :: (C.drop 0 ++ (A.drop (t + 1) ++ R))) = L ++ ((C.take 0 ++ y :: C.drop 0) ++ (A.drop (t + 1) ++ R)) by simp] at h9; exact h9
          · refine List.perm_middle.trans ?_
            rw [List.take_append_drop, take_succ_of HY.out]
            exact (List.Perm.cons _ HPC.out).trans (List.perm_append_comm (l₁ := [y]) (l₂ := A.take t))
          · rw [List.length_append, List.length_cons, List.length_take, List.length_drop, HLC.out]; omega
        · obtain ⟨v, rfl⟩ : ∃ v, u = v + 1 := ⟨u - 1, by omega⟩
          obtain ⟨⟨z0, z1⟩, hz⟩ : ∃ z, C[v]? = some z := ⟨_, List.getElem?_eq_getElem (by rw [HLC.out]; omega)⟩
          obtain ⟨e1, e2, e3⟩ := bubL_at (y := y) (R := A.drop (t + 1) ++ R) HL.out hz
          obtain ⟨jj, hj⟩ : ∃ jj, a + v = jj := ⟨_, rfl⟩
          rw [show a + v + 1 = j by omega] at e1 e3
          rw [hj] at e2 e3
          have S3 := Lib.hid e3
          have HZ := Lib.hid hz
          obtain ⟨p0, p1, pf0, pf1⟩ := own_at2 hO.out e1
          obtain ⟨r0, r1, rf0, rf1⟩ := own_at2 hO.out e2
          obtain ⟨x0, x1⟩ := y
          simp only at p0 p1 r0 r1
          have i2 : (a : Int) < (j : Int) := by omega
          have i2n : a < j := by omega
          have i3 : (j : Int) < (n : Int) := by omega
          have i4 : (jj : Int) < (n : Int) := by omega
          have i5 : (0 : Int) ≤ (j : Int) := by omega
          have i6 : (0 : Int) ≤ (jj : Int) := by omega
          have o3 : IntKind.i64.wrap ((j : Int) - 1) = (jj : Int) := by rw [IntWalk.i64_in _ (by omega)]; omega
          clear e1 e2 e3 hz
          go_wp2_with fail
          go_region_held3 (fun w' => (∀ b o, b < wr.heap.size → w'.cell? ⟨b, o, none⟩ = wr.cell? ⟨b, o, none⟩) ∧ Below wr.heap.size wr w') (first | exact sk (Below.refl _ _).drew | (go_split_ands; exact sk (below_app ‹_› hbw2 (Below.size ‹_›)))) (first | (go_at_call 96; with_reducible refine (cmpM_any x0 x1 z0 z1 _).mono ?_; rintro e w2 ⟨rfl, hbw2⟩))
          go_split_ands
          have hb2 : Below wr.heap.size wr w2 := ‹Below wr.heap.size wr w2›
          have hbb := hbw.trans (hb2.mono (hbw0 hbw))
          have HO2 := Lib.hid (own_below hO.out hb2)
          by_cases hc : x1 < z1
          · rw [cmpV_lt1 hc]
            obtain ⟨wq, rfl⟩ : ∃ W, W = w2 := ⟨_, rfl⟩
            clear p0 p1 r0 r1 pf0 pf1 rf0 rf1 hO hgw
            obtain ⟨wr, hwr⟩ : ∃ W, W = wq := ⟨_, rfl⟩
            rw [← hwr] at HO2 hbb
            have hO := HO2
            have e1 : (bubR L (x0, x1) C (A.drop (t + 1) ++ R) (v + 1))[j]? = some (x0, x1) := by have := (bubL_at (y := (x0, x1)) (R := A.drop (t + 1) ++ R) HL.out HZ.out).1; rwa [show a + v + 1 = j by omega] at this
            have e2 : (bubR L (x0, x1) C (A.drop (t + 1) ++ R) (v + 1))[jj]? = some (z0, z1) := by have := (bubL_at (y := (x0, x1)) (R := A.drop (t + 1) ++ R) HL.out HZ.out).2.1; rwa [hj] at this
            obtain ⟨p0, p1, pf0, pf1⟩ := own_at2 hO.out e1
            obtain ⟨r0, r1, rf0, rf1⟩ := own_at2 hO.out e2
            simp only at p0 p1 r0 r1
            have hgw : g < wr.heap.size := (hO.out.lt g rfl).2
            have n1 : ¬ jj * 2 = j * 2 := by omega
            have n2 : ¬ jj * 2 = j * 2 + 1 := by omega
            have n3 : ¬ jj * 2 + 1 = j * 2 := by omega
            have n4 : ¬ jj * 2 + 1 = j * 2 + 1 := by omega
            have n5 : ¬ j * 2 = jj * 2 := by omega
            have n6 : ¬ j * 2 = jj * 2 + 1 := by omega
            have n7 : ¬ j * 2 + 1 = jj * 2 := by omega
            have n8 : ¬ j * 2 + 1 = jj * 2 + 1 := by omega
            have k3 : (jj : Int) < (n : Int) := by omega
            have k4 : (j : Int) < (n : Int) := by omega
            have k5 : (0 : Int) ≤ (jj : Int) := by omega
            have k6 : (0 : Int) ≤ (j : Int) := by omega
            have hll : Hid ((bubR L (x0, x1) C (A.drop (t + 1) ++ R) (v + 1)).length = n) := by show _ = _; have := hO.out.1; rw [flat_len c2_len] at this; omega
            clear e1 e2
            subst hwr
            go_wp2_with fail
            go_region
            go_wp2
            have h9 := putS2 (putS2 hO.out (i := j) (by rw [hll.out]; omega) (z0, z1)) (i := jj) (by rw [List.length_set, hll.out]; omega) (x0, x1)
            rw [S3.out] at h9
            exact ⟨⟨jj, v, rfl, by omega, by omega, (by repeat (first | exact Below.refl _ _ | assumption | refine Below.drew ?_ | refine below_drewN ?_ _ | refine Below.alloc ?_ (by first | omega | (simp <;> omega)) _ | refine Below.setCell ?_ (by first | omega | (simp <;> omega)) _)), h9, .inr ⟨(z0, z1), HZ.out, hc⟩⟩, by simp [intOf]; omega⟩
          · have HCC := Lib.hid (sd_one' HSC.out HTY.out (t := v + 1) (by rw [HLC.out]; omega) (.inr ⟨(z0, z1), by rw [Nat.add_sub_cancel]; exact HZ.out, hc⟩) h2.out)
            rcases cmpV_ge1 hc with hv | hv
            all_goals
              rw [hv]
              go_wp2
              refine ⟨⟨k + 1, t + 1, by go_num, by omega, by omega, by omega, hbb, C.take (v + 1) ++ (x0, x1) :: C.drop (v + 1), A.drop (t + 1), ?_, HCC.out, ?_, rfl, ?_⟩, by simp [intOf]; omega⟩
              · have h9 := HO2.out; unfold bubR at h9; rw [show L ++ (C.take (v + 1) ++ (x0, x1) :: (C.drop (v + 1) ++ (A.drop (t + 1) ++ R))) = L ++ ((C.take (v + 1) ++ (x0, x1) :: C.drop (v + 1)) ++ (A.drop (t + 1) ++ R)) by simp] at h9; exact h9
              · refine List.perm_middle.trans ?_
                rw [List.take_append_drop, take_succ_of HY.out]
                exact (List.Perm.cons _ HPC.out).trans (List.perm_append_comm (l₁ := [(x0, x1)]) (l₂ := A.take t))
              · rw [List.length_append, List.length_cons, List.length_take, List.length_drop, HLC.out]; omega
    · have hI2 := hI.out
      obtain ⟨C, D, hO, sC, pC, hD, lC⟩ := hI2
      have i1 : ¬ (k : Int) < (b : Int) := by omega
      have hqt : q ≤ t := by omega
      rw [List.take_of_length_le (by rw [HQ.out]; exact hqt)] at pC
      rw [hD, List.drop_of_length_le (by rw [HQ.out]; exact hqt), List.nil_append] at hO
      have HO9 := Lib.hid hO
      clear hI hO
      go_wp2
      exact bodyPost_end (v := .tuple #[]) (by simp [results, Try.results125, go_sem]) rfl ⟨rfl, C, by show World.ownsRow _ _ _ _ _ _ _; simpa using HO9.out, sC, pC, hbw⟩
end Go.Proofs.Ytkldejbhhbgefaa
