/- slices.SortStableFunc over numbers of lists: the symmetric merge. -/
import Derived.Test.YtkldejbhhbgefaaB1
import Derived.Deep.Cut
import Derived.Deep.CutRange
import Derived.Deep.RegionHeld3
import Derived.IntWalk
namespace Go.Proofs.Ytkldejbhhbgefaa
open Go.ChangeShapes Go.WideShapes Go.ChangeAt Go.RowKit
set_option linter.unusedVariables false
set_option linter.unusedSimpArgs false
theorem take_nilO {lb : Nat} {l : List (Fin lb)} {k : Nat} (h : k = 0) : l.take k = [] := by subst h; rfl
theorem take_fullO {lb : Nat} {l : List (Fin lb)} {k : Nat} (h : k = l.length) : l.take k = l ∧ l.drop k = [] := by subst h; exact ⟨List.take_length, List.drop_length⟩
set_option maxRecDepth 100000 in
set_option maxHeartbeats 8000000 in
theorem sm3O_any {lb gp gb cb : Nat} {bs : List Int} (N g n c base a m b : Nat) (IH : ∀ (L A B R : List (Fin lb)) (a m b : Nat) (w : World), w.ownsRow base 2 1 (.slice (some ⟨g, 0, none⟩) n c) n ((L ++ (A ++ (B ++ R))).flatMap cO) → L.length = a → a + A.length = m → m + B.length = b → 0 < A.length → 0 < B.length → A.length + B.length < N → Sd (kyO bs) tgO A → Sd (kyO bs) tgO B → Tg tgO A B → base ≤ w.heap.size → Hid (BOk w base gp gb lb cb bs) → Calls Try.prog 110 #[.slice (some ⟨g, 0, none⟩) n c, .int .i64 (a : Int), .int .i64 (m : Int), .int .i64 (b : Int), .func (.func 54) #[] #[.pointer (some ⟨gp, 0, none⟩)]] w (fun e w' => e = .returned (.tuple #[]) ∧ ∃ C, Hid (w'.ownsRow base 2 1 (.slice (some ⟨g, 0, none⟩) n c) n ((L ++ (C ++ R)).flatMap cO)) ∧ Sd (kyO bs) tgO C ∧ C.Perm (A ++ B) ∧ Below base w w')) (L A B R : List (Fin lb)) (w : World) (ho : w.ownsRow base 2 1 (.slice (some ⟨g, 0, none⟩) n c) n ((L ++ (A ++ (B ++ R))).flatMap cO)) (hL : L.length = a) (hm : a + A.length = m) (hb : m + B.length = b) (hA : 1 < A.length) (hB : 1 < B.length) (hN : A.length + B.length = N) (sA : Sd (kyO bs) tgO A) (sB : Sd (kyO bs) tgO B) (tg : Tg tgO A B) (hn : n ≤ 1000) (hbs : base ≤ w.heap.size) (HBW : Hid (BOk w base gp gb lb cb bs)) :
    Calls Try.prog 110 #[.slice (some ⟨g, 0, none⟩) n c, .int .i64 (a : Int), .int .i64 (m : Int), .int .i64 (b : Int), .func (.func 54) #[] #[.pointer (some ⟨gp, 0, none⟩)]] w (fun e w' => e = .returned (.tuple #[]) ∧ ∃ C, Hid (w'.ownsRow base 2 1 (.slice (some ⟨g, 0, none⟩) n c) n ((L ++ (C ++ R)).flatMap cO)) ∧ Sd (kyO bs) tgO C ∧ C.Perm (A ++ B) ∧ Below base w w') := by
  have hlen : a + A.length + B.length + R.length = n := by
    have := ho.1; rw [flat_len cO_len] at this; simp only [List.length_append] at this; omega
  have hbw0 := fun {wr : World} (h : Below base w wr) => hbw0' hbs h
  have hg0 : base ≤ g := (ho.lt g rfl).1
  have HO := Lib.hid ho
  have HL := Lib.hid hL
  have HSA := Lib.hid sA
  have HSB := Lib.hid sB
  have HT := Lib.hid tg
  have HIH := Lib.hid IH
  obtain ⟨p, hp⟩ : ∃ p, A.length = p := ⟨_, rfl⟩
  obtain ⟨q, hq⟩ : ∃ q, B.length = q := ⟨_, rfl⟩
  have HP := Lib.hid hp
  have HQ := Lib.hid hq
  rw [hp] at hm hlen hA hN
  rw [hq] at hb hlen hB hN
  obtain ⟨mid, hmid⟩ : ∃ mid, a + (p + q) / 2 = mid := ⟨_, rfl⟩
  have em : ((a : Int) + (b : Int)) / 2 = (mid : Int) := by omega
  have o1 : IntKind.i64.wrap ((m : Int) - (a : Int)) = (p : Int) := by rw [IntWalk.i64_in _ (by omega)]; omega
  have o1b : ((p : Int) == 1) = false := by simp; omega
  have o1c : ¬ (p : Int) = 1 := by omega
  have o2 : IntKind.i64.wrap ((b : Int) - (m : Int)) = (q : Int) := by rw [IntWalk.i64_in _ (by omega)]; omega
  have o2b : ((q : Int) == 1) = false := by simp; omega
  have o2c : ¬ (q : Int) = 1 := by omega
  have o3 : IntKind.i64.wrap ((mid : Int) + (m : Int)) = ((mid + m : Nat) : Int) := by rw [IntWalk.i64_in _ (by omega)]; omega
  obtain ⟨nn, hnn⟩ : ∃ nn, mid + m = nn := ⟨_, rfl⟩
  rw [hnn] at o3
  have o5 : IntKind.i64.wrap ((nn : Int) - 1) = ((nn - 1 : Nat) : Int) := by rw [IntWalk.i64_in _ (by omega)]; omega
  clear ho hL sA sB tg hp hq IH
  go_enter Try.func110, Try.ntmps110
  by_cases hmm : mid < m
  · have i1 : (mid : Int) < (m : Int) := by omega
    have o4 : IntKind.i64.wrap ((nn : Int) - (b : Int)) = ((nn - b : Nat) : Int) := by rw [IntWalk.i64_in _ (by omega)]; omega
    obtain ⟨S0, hS0⟩ : ∃ S0, nn - b = S0 := ⟨_, rfl⟩
    rw [hS0] at o4
    have hSR : (S0 = nn - b ∧ mid = mid ∧ mid < m) ∨ (S0 = a ∧ mid = m ∧ m ≤ mid) := .inl ⟨hS0.symm, rfl, hmm⟩
    clear hS0 hmm
    go_wp2_with fail
    clear o4 i1
    have q1 : a ≤ S0 := by omega
    have q2 : S0 ≤ mid := by omega
    have q3 : mid ≤ mid := by omega
    have q4 : mid ≤ m := by omega
    have q5 : mid ≤ S0 + q := by omega
    go_loopw [20, 21] (fun i j wr => ∃ s t : Nat, i = .int .i64 (s : Int) ∧ j = .int .i64 (t : Int) ∧ S0 ≤ s ∧ s ≤ t ∧ t ≤ mid ∧ Below base w wr ∧ Hid (wr.ownsRow base 2 1 (.slice (some ⟨g, 0, none⟩) n c) n ((L ++ (A ++ (B ++ R))).flatMap cO)) ∧ Hid (s = S0 ∨ ∃ x y, A[s - a - 1]? = some x ∧ B[mid - s]? = some y ∧ kyO bs x ≤ kyO bs y) ∧ Hid (t = mid ∨ ∃ x y, A[t - a]? = some x ∧ B[mid - t - 1]? = some y ∧ kyO bs y < kyO bs x)) (fun i j _ => (intOf j).toNat - (intOf i).toNat)
    case atStart => exact ⟨S0, mid, rfl, rfl, Nat.le_refl _, q2, Nat.le_refl _, Below.refl _ _, HO.out, .inl rfl, .inl rfl⟩
    case round =>
      clear HO
      obtain ⟨s, t, rfl, rfl, hms, hst, htb, hbw, hO, h1, h2⟩ := hrel
      have hgw : g < wr.heap.size := (hO.out.lt g rfl).2
      by_cases hlt : s < t
      · obtain ⟨h, hh⟩ : ∃ h, (s + t) / 2 = h := ⟨_, rfl⟩
        have eh : ((s : Int) + (t : Int)) / 2 = (h : Int) := by omega
        obtain ⟨j, hj⟩ : ∃ j, nn - 1 - h = j := ⟨_, rfl⟩
        obtain ⟨x0, hx⟩ : ∃ z, A[h - a]? = some z := ⟨_, List.getElem?_eq_getElem (by rw [HP.out]; omega)⟩
        obtain ⟨y0, hy⟩ : ∃ z, B[mid - h - 1]? = some z := ⟨_, List.getElem?_eq_getElem (by rw [HQ.out]; omega)⟩
        have g1 : (L ++ (A ++ (B ++ R)))[h]? = some x0 := by
          rw [List.getElem?_append_right (by rw [HL.out]; omega), HL.out, List.getElem?_append_left (by rw [HP.out]; omega)]; exact hx
        have g2 : (L ++ (A ++ (B ++ R)))[j]? = some y0 := by
          rw [List.getElem?_append_right (by rw [HL.out]; omega), HL.out, List.getElem?_append_right (by rw [HP.out]; omega), HP.out, List.getElem?_append_left (by rw [HQ.out]; omega), show j - a - p = mid - h - 1 by omega]; exact hy
        obtain ⟨p0, pf0⟩ := own_atO hO.out g1
        obtain ⟨r0, rf0⟩ := own_atO hO.out g2
        have HXX := Lib.hid hx
        have HYY := Lib.hid hy
        have o6 : IntKind.i64.wrap (((nn - 1 : Nat) : Int) - (h : Int)) = (j : Int) := by rw [IntWalk.i64_in _ (by omega)]; omega
        have i1 : (s : Int) < (t : Int) := by omega
        have i2 : (h : Int) < (n : Int) := by omega
        have i3 : (0 : Int) ≤ (h : Int) := by omega
        have i4 : (j : Int) < (n : Int) := by omega
        have i5 : (0 : Int) ≤ (j : Int) := by omega
        clear g1 g2 hx hy
        go_wp2_with fail
        try rw [eh]
        go_region_held3 (fun w' => (∀ b o, b < wr.heap.size → w'.cell? ⟨b, o, none⟩ = wr.cell? ⟨b, o, none⟩) ∧ Below wr.heap.size wr w') (first | exact sk (Below.refl _ _).drew | (go_split_ands; exact sk (below_app ‹_› hbw2 (Below.size ‹_›)))) (first | (go_at_call 54; with_reducible refine (cmpB_any y0 x0 _ ((HBW.out.below hbw).below (Below.refl _ _).drew)).mono ?_; rintro e w2 ⟨rfl, hbw2⟩))
        go_split_ands
        have hb2 : Below wr.heap.size wr w2 := ‹Below wr.heap.size wr w2›
        have hbb := hbw.trans (hb2.mono (hbw0 hbw))
        have HO2 := Lib.hid (own_below hO.out hb2)
        clear p0 r0 pf0 rf0
        by_cases hc : kyO bs y0 < kyO bs x0
        · rw [cmpV_lt1 hc]
          go_wp2
          exact ⟨⟨s, h, rfl, rfl, hms, by omega, by omega, hbb, HO2.out, h1, .inr ⟨x0, y0, HXX.out, HYY.out, hc⟩⟩, by simp [intOf]; omega⟩
        · have hc9 : kyO bs x0 ≤ kyO bs y0 := by omega
          rcases cmpV_ge1 hc with hv | hv
          all_goals
            rw [hv]
            go_wp2
            exact ⟨⟨h + 1, t, by go_num, rfl, by omega, by omega, htb, hbb, HO2.out, .inr ⟨x0, y0, by rw [show h + 1 - a - 1 = h - a by omega]; exact HXX.out, by rw [show mid - (h + 1) = mid - h - 1 by omega]; exact HYY.out, hc9⟩, h2⟩, by simp [intOf]; omega⟩
      · have hst2 : s = t := by omega
        subst hst2
        have HX := Lib.hid (sd_cross (s := s - a) (e := mid - s) HSA.out HSB.out HT.out (by
          rcases h1.out with h9 | ⟨x, y, e1, e2, e3⟩
          · rcases hSR with ⟨u1, u2, u3⟩ | ⟨u1, u2, u3⟩
            · exact .inr (.inl (by rw [HQ.out]; omega))
            · exact .inl (by omega)
          · exact .inr (.inr ⟨x, y, e1, e2, by omega⟩)) (by
          rcases h2.out with h9 | ⟨x, y, e1, e2, e3⟩
          · rcases hSR with ⟨u1, u2, u3⟩ | ⟨u1, u2, u3⟩
            · exact .inr (.inl (by omega))
            · exact .inl (by rw [HP.out]; omega)
          · exact .inr (.inr ⟨x, y, e1, e2, e3⟩)))
        obtain ⟨en, hen⟩ : ∃ en, nn - s = en := ⟨_, rfl⟩
        have o7 : IntKind.i64.wrap ((nn : Int) - (s : Int)) = (en : Int) := by rw [IntWalk.i64_in _ (by omega)]; omega
        have i1 : ¬ (s : Int) < (s : Int) := by omega
        clear h1 h2
        by_cases kB : s < mid
        · by_cases kA : s < m
          · by_cases k1 : a < s
            · by_cases k4 : en < b
              · have x0 : (s : Int) < (m : Int) := by omega
                have x1 : (m : Int) < (en : Int) := by omega
                have x2 : (a : Int) < (s : Int) := by omega
                have x3 : (s : Int) < (mid : Int) := by omega
                have x4 : (mid : Int) < (en : Int) := by omega
                have x5 : (en : Int) < (b : Int) := by omega
                have HRo : Hid (wr.ownsRow base 2 1 (.slice (some ⟨g, 0, none⟩) n c) n (((L ++ A.take (s - a)) ++ (A.drop (s - a) ++ (B.take (mid - s) ++ (B.drop (mid - s) ++ R)))).flatMap cO)) := by show World.ownsRow _ _ _ _ _ _ _; rw [List.append_assoc, ← List.append_assoc (A.take (s - a)) (A.drop (s - a)), List.take_append_drop, ← List.append_assoc (B.take (mid - s)) (B.drop (mid - s)), List.take_append_drop]; exact hO.out
                go_wp2_with fail
                with_reducible refine (rotateO_any g n c base s m en (.func (.func 54) #[] #[.pointer (some ⟨gp, 0, none⟩)]) (L ++ A.take (s - a)) (A.drop (s - a)) (B.take (mid - s)) (B.drop (mid - s) ++ R) _ HRo.out (by rw [List.length_append, List.length_take, HL.out, HP.out]; omega) (by rw [List.length_drop, HP.out]; omega) (by rw [List.length_take, HQ.out]; omega) (by rw [List.length_drop, HP.out]; omega) (by rw [List.length_take, HQ.out]; omega) hn).mono ?_
                rintro e w4 ⟨rfl, ho4, hb4⟩
                have hb4' := hbw.trans hb4
                have H1 : Hid (w4.ownsRow base 2 1 (.slice (some ⟨g, 0, none⟩) n c) n ((L ++ (A.take (s - a) ++ (B.take (mid - s) ++ (A.drop (s - a) ++ (B.drop (mid - s) ++ R))))).flatMap cO)) := by show World.ownsRow _ _ _ _ _ _ _; rw [List.append_assoc] at ho4; exact ho4
                clear ho4 hb4 HRo
                have hbs4 := hbw0 hb4'
                go_wp2_with fail
                with_reducible refine (HIH.out L (A.take (s - a)) (B.take (mid - s)) (A.drop (s - a) ++ (B.drop (mid - s) ++ R)) a s mid _ H1.out HL.out (by rw [List.length_take, HP.out]; omega) (by rw [List.length_take, HQ.out]; omega) (by rw [List.length_take, HP.out]; omega) (by rw [List.length_take, HQ.out]; omega) (by rw [List.length_take, List.length_take, HP.out, HQ.out]; omega) (sd_take HSA.out _) (sd_take HSB.out _) (HT.out.sub (fun x => List.mem_of_mem_take) (fun x => List.mem_of_mem_take)) hbs4 (Lib.hid (HBW.out.below hb4'))).mono ?_
                rintro e w5 ⟨rfl, C1, ho5, sC1, pC1, hb5⟩
                have hb5' := hb4'.trans hb5
                have H2 : Hid (w5.ownsRow base 2 1 (.slice (some ⟨g, 0, none⟩) n c) n ((L ++ (C1 ++ (A.drop (s - a) ++ (B.drop (mid - s) ++ R)))).flatMap cO)) := ho5
                clear ho5 hb5
                have lC1 : C1.length = mid - a := by rw [pC1.length_eq, List.length_append, List.length_take, List.length_take, HP.out, HQ.out]; omega
                have hbs5 := hbw0 hb5'
                have H3 : Hid (w5.ownsRow base 2 1 (.slice (some ⟨g, 0, none⟩) n c) n (((L ++ C1) ++ (A.drop (s - a) ++ (B.drop (mid - s) ++ R))).flatMap cO)) := by show World.ownsRow _ _ _ _ _ _ _; rw [List.append_assoc]; exact H2.out
                go_wp2_with fail
                with_reducible refine (HIH.out (L ++ C1) (A.drop (s - a)) (B.drop (mid - s)) R mid en b _ H3.out (by rw [List.length_append, HL.out, lC1]; omega) (by rw [List.length_drop, HP.out]; omega) (by rw [List.length_drop, HQ.out]; omega) (by rw [List.length_drop, HP.out]; omega) (by rw [List.length_drop, HQ.out]; omega) (by rw [List.length_drop, List.length_drop, HP.out, HQ.out]; omega) (sd_drop HSA.out _) (sd_drop HSB.out _) (HT.out.sub (fun x => List.mem_of_mem_drop) (fun x => List.mem_of_mem_drop)) hbs5 (Lib.hid (HBW.out.below hb5'))).mono ?_
                rintro e w6 ⟨rfl, C2, ho6, sC2, pC2, hb6⟩
                have hb6' := hb5'.trans hb6
                have H4 : Hid (w6.ownsRow base 2 1 (.slice (some ⟨g, 0, none⟩) n c) n (((L ++ C1) ++ (C2 ++ R)).flatMap cO)) := ho6
                clear ho6 hb6
                have HJ := Lib.hid (sd_join sC1 sC2 pC1 pC2 HX.out)
                clear sC1 sC2 pC1 pC2
                go_wp2
                all_goals
                  refine bodyPost_end (v := .tuple #[]) (by simp [results, Try.results110, go_sem]) rfl ⟨rfl, C1 ++ C2, ?_, HJ.out.1, HJ.out.2, hb6'⟩
                  have h9 := H4.out
                  rw [show (L ++ C1) ++ (C2 ++ R) = L ++ ((C1 ++ C2) ++ R) by simp] at h9
                  show World.ownsRow _ _ _ _ _ _ _
                  simpa using h9
              · have x0 : (s : Int) < (m : Int) := by omega
                have x1 : (m : Int) < (en : Int) := by omega
                have x2 : (a : Int) < (s : Int) := by omega
                have x3 : (s : Int) < (mid : Int) := by omega
                have x4 : (mid : Int) < (en : Int) := by omega
                have x5 : ¬ (en : Int) < (b : Int) := by omega
                have y5 : decide ((en : Int) < (b : Int)) = false := decide_eq_false x5
                have HRo : Hid (wr.ownsRow base 2 1 (.slice (some ⟨g, 0, none⟩) n c) n (((L ++ A.take (s - a)) ++ (A.drop (s - a) ++ (B.take (mid - s) ++ (B.drop (mid - s) ++ R)))).flatMap cO)) := by show World.ownsRow _ _ _ _ _ _ _; rw [List.append_assoc, ← List.append_assoc (A.take (s - a)) (A.drop (s - a)), List.take_append_drop, ← List.append_assoc (B.take (mid - s)) (B.drop (mid - s)), List.take_append_drop]; exact hO.out
                go_wp2_with fail
                with_reducible refine (rotateO_any g n c base s m en (.func (.func 54) #[] #[.pointer (some ⟨gp, 0, none⟩)]) (L ++ A.take (s - a)) (A.drop (s - a)) (B.take (mid - s)) (B.drop (mid - s) ++ R) _ HRo.out (by rw [List.length_append, List.length_take, HL.out, HP.out]; omega) (by rw [List.length_drop, HP.out]; omega) (by rw [List.length_take, HQ.out]; omega) (by rw [List.length_drop, HP.out]; omega) (by rw [List.length_take, HQ.out]; omega) hn).mono ?_
                rintro e w4 ⟨rfl, ho4, hb4⟩
                have hb4' := hbw.trans hb4
                have H1 : Hid (w4.ownsRow base 2 1 (.slice (some ⟨g, 0, none⟩) n c) n ((L ++ (A.take (s - a) ++ (B.take (mid - s) ++ (A.drop (s - a) ++ (B.drop (mid - s) ++ R))))).flatMap cO)) := by show World.ownsRow _ _ _ _ _ _ _; rw [List.append_assoc] at ho4; exact ho4
                clear ho4 hb4 HRo
                have hbs4 := hbw0 hb4'
                go_wp2_with fail
                with_reducible refine (HIH.out L (A.take (s - a)) (B.take (mid - s)) (A.drop (s - a) ++ (B.drop (mid - s) ++ R)) a s mid _ H1.out HL.out (by rw [List.length_take, HP.out]; omega) (by rw [List.length_take, HQ.out]; omega) (by rw [List.length_take, HP.out]; omega) (by rw [List.length_take, HQ.out]; omega) (by rw [List.length_take, List.length_take, HP.out, HQ.out]; omega) (sd_take HSA.out _) (sd_take HSB.out _) (HT.out.sub (fun x => List.mem_of_mem_take) (fun x => List.mem_of_mem_take)) hbs4 (Lib.hid (HBW.out.below hb4'))).mono ?_
                rintro e w5 ⟨rfl, C1, ho5, sC1, pC1, hb5⟩
                have hb5' := hb4'.trans hb5
                have H2 : Hid (w5.ownsRow base 2 1 (.slice (some ⟨g, 0, none⟩) n c) n ((L ++ (C1 ++ (A.drop (s - a) ++ (B.drop (mid - s) ++ R)))).flatMap cO)) := ho5
                clear ho5 hb5
                have lC1 : C1.length = mid - a := by rw [pC1.length_eq, List.length_append, List.length_take, List.length_take, HP.out, HQ.out]; omega
                obtain ⟨w6, rfl⟩ : ∃ W, W = w5 := ⟨_, rfl⟩
                have hb6' := hb5'
                obtain ⟨C2, hC2⟩ : ∃ C, A.drop (s - a) ++ B.drop (mid - s) = C := ⟨_, rfl⟩
                have H4 : Hid (w6.ownsRow base 2 1 (.slice (some ⟨g, 0, none⟩) n c) n (((L ++ C1) ++ (C2 ++ R)).flatMap cO)) := by show World.ownsRow _ _ _ _ _ _ _; rw [← hC2, List.append_assoc, List.append_assoc (A.drop (s - a))]; exact H2.out
                have pC2 : C2.Perm (A.drop (s - a) ++ B.drop (mid - s)) := by rw [hC2]
                have sC2 : Sd (kyO bs) tgO C2 := by rw [← hC2]; rw [(take_fullO (l := B) (k := mid - s) (by rw [HQ.out]; omega)).2, List.append_nil]; exact sd_drop HSA.out _
                have HJ := Lib.hid (sd_join sC1 sC2 pC1 pC2 HX.out)
                clear sC1 sC2 pC1 pC2
                go_wp2
                all_goals
                  refine bodyPost_end (v := .tuple #[]) (by simp [results, Try.results110, go_sem]) rfl ⟨rfl, C1 ++ C2, ?_, HJ.out.1, HJ.out.2, hb6'⟩
                  have h9 := H4.out
                  rw [show (L ++ C1) ++ (C2 ++ R) = L ++ ((C1 ++ C2) ++ R) by simp] at h9
                  show World.ownsRow _ _ _ _ _ _ _
                  simpa using h9
            · by_cases k4 : en < b
              · have x0 : (s : Int) < (m : Int) := by omega
                have x1 : (m : Int) < (en : Int) := by omega
                have x2 : ¬ (a : Int) < (s : Int) := by omega
                have y2 : decide ((a : Int) < (s : Int)) = false := decide_eq_false x2
                have x3 : (s : Int) < (mid : Int) := by omega
                have x4 : (mid : Int) < (en : Int) := by omega
                have x5 : (en : Int) < (b : Int) := by omega
                have HRo : Hid (wr.ownsRow base 2 1 (.slice (some ⟨g, 0, none⟩) n c) n (((L ++ A.take (s - a)) ++ (A.drop (s - a) ++ (B.take (mid - s) ++ (B.drop (mid - s) ++ R)))).flatMap cO)) := by show World.ownsRow _ _ _ _ _ _ _; rw [List.append_assoc, ← List.append_assoc (A.take (s - a)) (A.drop (s - a)), List.take_append_drop, ← List.append_assoc (B.take (mid - s)) (B.drop (mid - s)), List.take_append_drop]; exact hO.out
                go_wp2_with fail
                with_reducible refine (rotateO_any g n c base s m en (.func (.func 54) #[] #[.pointer (some ⟨gp, 0, none⟩)]) (L ++ A.take (s - a)) (A.drop (s - a)) (B.take (mid - s)) (B.drop (mid - s) ++ R) _ HRo.out (by rw [List.length_append, List.length_take, HL.out, HP.out]; omega) (by rw [List.length_drop, HP.out]; omega) (by rw [List.length_take, HQ.out]; omega) (by rw [List.length_drop, HP.out]; omega) (by rw [List.length_take, HQ.out]; omega) hn).mono ?_
                rintro e w4 ⟨rfl, ho4, hb4⟩
                have hb4' := hbw.trans hb4
                have H1 : Hid (w4.ownsRow base 2 1 (.slice (some ⟨g, 0, none⟩) n c) n ((L ++ (A.take (s - a) ++ (B.take (mid - s) ++ (A.drop (s - a) ++ (B.drop (mid - s) ++ R))))).flatMap cO)) := by show World.ownsRow _ _ _ _ _ _ _; rw [List.append_assoc] at ho4; exact ho4
                clear ho4 hb4 HRo
                obtain ⟨w5, rfl⟩ : ∃ W, W = w4 := ⟨_, rfl⟩
                have hb5' := hb4'
                obtain ⟨C1, hC1⟩ : ∃ C, A.take (s - a) ++ B.take (mid - s) = C := ⟨_, rfl⟩
                have H2 : Hid (w5.ownsRow base 2 1 (.slice (some ⟨g, 0, none⟩) n c) n ((L ++ (C1 ++ (A.drop (s - a) ++ (B.drop (mid - s) ++ R)))).flatMap cO)) := by show World.ownsRow _ _ _ _ _ _ _; rw [← hC1, List.append_assoc]; exact H1.out
                have pC1 : C1.Perm (A.take (s - a) ++ B.take (mid - s)) := by rw [hC1]
                have sC1 : Sd (kyO bs) tgO C1 := by rw [← hC1]; rw [show A.take (s - a) = [] from take_nilO (by omega), List.nil_append]; exact sd_take HSB.out _
                have lC1 : C1.length = mid - a := by rw [pC1.length_eq, List.length_append, List.length_take, List.length_take, HP.out, HQ.out]; omega
                have hbs5 := hbw0 hb5'
                have H3 : Hid (w5.ownsRow base 2 1 (.slice (some ⟨g, 0, none⟩) n c) n (((L ++ C1) ++ (A.drop (s - a) ++ (B.drop (mid - s) ++ R))).flatMap cO)) := by show World.ownsRow _ _ _ _ _ _ _; rw [List.append_assoc]; exact H2.out
                go_wp2_with fail
                with_reducible refine (HIH.out (L ++ C1) (A.drop (s - a)) (B.drop (mid - s)) R mid en b _ H3.out (by rw [List.length_append, HL.out, lC1]; omega) (by rw [List.length_drop, HP.out]; omega) (by rw [List.length_drop, HQ.out]; omega) (by rw [List.length_drop, HP.out]; omega) (by rw [List.length_drop, HQ.out]; omega) (by rw [List.length_drop, List.length_drop, HP.out, HQ.out]; omega) (sd_drop HSA.out _) (sd_drop HSB.out _) (HT.out.sub (fun x => List.mem_of_mem_drop) (fun x => List.mem_of_mem_drop)) hbs5 (Lib.hid (HBW.out.below hb5'))).mono ?_
                rintro e w6 ⟨rfl, C2, ho6, sC2, pC2, hb6⟩
                have hb6' := hb5'.trans hb6
                have H4 : Hid (w6.ownsRow base 2 1 (.slice (some ⟨g, 0, none⟩) n c) n (((L ++ C1) ++ (C2 ++ R)).flatMap cO)) := ho6
                clear ho6 hb6
                have HJ := Lib.hid (sd_join sC1 sC2 pC1 pC2 HX.out)
                clear sC1 sC2 pC1 pC2
                go_wp2
                all_goals
                  refine bodyPost_end (v := .tuple #[]) (by simp [results, Try.results110, go_sem]) rfl ⟨rfl, C1 ++ C2, ?_, HJ.out.1, HJ.out.2, hb6'⟩
                  have h9 := H4.out
                  rw [show (L ++ C1) ++ (C2 ++ R) = L ++ ((C1 ++ C2) ++ R) by simp] at h9
                  show World.ownsRow _ _ _ _ _ _ _
                  simpa using h9
              · have x0 : (s : Int) < (m : Int) := by omega
                have x1 : (m : Int) < (en : Int) := by omega
                have x2 : ¬ (a : Int) < (s : Int) := by omega
                have y2 : decide ((a : Int) < (s : Int)) = false := decide_eq_false x2
                have x3 : (s : Int) < (mid : Int) := by omega
                have x4 : (mid : Int) < (en : Int) := by omega
                have x5 : ¬ (en : Int) < (b : Int) := by omega
                have y5 : decide ((en : Int) < (b : Int)) = false := decide_eq_false x5
                have HRo : Hid (wr.ownsRow base 2 1 (.slice (some ⟨g, 0, none⟩) n c) n (((L ++ A.take (s - a)) ++ (A.drop (s - a) ++ (B.take (mid - s) ++ (B.drop (mid - s) ++ R)))).flatMap cO)) := by show World.ownsRow _ _ _ _ _ _ _; rw [List.append_assoc, ← List.append_assoc (A.take (s - a)) (A.drop (s - a)), List.take_append_drop, ← List.append_assoc (B.take (mid - s)) (B.drop (mid - s)), List.take_append_drop]; exact hO.out
                go_wp2_with fail
                with_reducible refine (rotateO_any g n c base s m en (.func (.func 54) #[] #[.pointer (some ⟨gp, 0, none⟩)]) (L ++ A.take (s - a)) (A.drop (s - a)) (B.take (mid - s)) (B.drop (mid - s) ++ R) _ HRo.out (by rw [List.length_append, List.length_take, HL.out, HP.out]; omega) (by rw [List.length_drop, HP.out]; omega) (by rw [List.length_take, HQ.out]; omega) (by rw [List.length_drop, HP.out]; omega) (by rw [List.length_take, HQ.out]; omega) hn).mono ?_
                rintro e w4 ⟨rfl, ho4, hb4⟩
                have hb4' := hbw.trans hb4
                have H1 : Hid (w4.ownsRow base 2 1 (.slice (some ⟨g, 0, none⟩) n c) n ((L ++ (A.take (s - a) ++ (B.take (mid - s) ++ (A.drop (s - a) ++ (B.drop (mid - s) ++ R))))).flatMap cO)) := by show World.ownsRow _ _ _ _ _ _ _; rw [List.append_assoc] at ho4; exact ho4
                clear ho4 hb4 HRo
                obtain ⟨w5, rfl⟩ : ∃ W, W = w4 := ⟨_, rfl⟩
                have hb5' := hb4'
                obtain ⟨C1, hC1⟩ : ∃ C, A.take (s - a) ++ B.take (mid - s) = C := ⟨_, rfl⟩
                have H2 : Hid (w5.ownsRow base 2 1 (.slice (some ⟨g, 0, none⟩) n c) n ((L ++ (C1 ++ (A.drop (s - a) ++ (B.drop (mid - s) ++ R)))).flatMap cO)) := by show World.ownsRow _ _ _ _ _ _ _; rw [← hC1, List.append_assoc]; exact H1.out
                have pC1 : C1.Perm (A.take (s - a) ++ B.take (mid - s)) := by rw [hC1]
                have sC1 : Sd (kyO bs) tgO C1 := by rw [← hC1]; rw [show A.take (s - a) = [] from take_nilO (by omega), List.nil_append]; exact sd_take HSB.out _
                have lC1 : C1.length = mid - a := by rw [pC1.length_eq, List.length_append, List.length_take, List.length_take, HP.out, HQ.out]; omega
                obtain ⟨w6, rfl⟩ : ∃ W, W = w5 := ⟨_, rfl⟩
                have hb6' := hb5'
                obtain ⟨C2, hC2⟩ : ∃ C, A.drop (s - a) ++ B.drop (mid - s) = C := ⟨_, rfl⟩
                have H4 : Hid (w6.ownsRow base 2 1 (.slice (some ⟨g, 0, none⟩) n c) n (((L ++ C1) ++ (C2 ++ R)).flatMap cO)) := by show World.ownsRow _ _ _ _ _ _ _; rw [← hC2, List.append_assoc, List.append_assoc (A.drop (s - a))]; exact H2.out
                have pC2 : C2.Perm (A.drop (s - a) ++ B.drop (mid - s)) := by rw [hC2]
                have sC2 : Sd (kyO bs) tgO C2 := by rw [← hC2]; rw [(take_fullO (l := B) (k := mid - s) (by rw [HQ.out]; omega)).2, List.append_nil]; exact sd_drop HSA.out _
                have HJ := Lib.hid (sd_join sC1 sC2 pC1 pC2 HX.out)
                clear sC1 sC2 pC1 pC2
                go_wp2
                all_goals
                  refine bodyPost_end (v := .tuple #[]) (by simp [results, Try.results110, go_sem]) rfl ⟨rfl, C1 ++ C2, ?_, HJ.out.1, HJ.out.2, hb6'⟩
                  have h9 := H4.out
                  rw [show (L ++ C1) ++ (C2 ++ R) = L ++ ((C1 ++ C2) ++ R) by simp] at h9
                  show World.ownsRow _ _ _ _ _ _ _
                  simpa using h9
          · by_cases k4 : en < b
            · have x0 : ¬ (s : Int) < (m : Int) := by omega
              have y0 : decide ((s : Int) < (m : Int)) = false := decide_eq_false x0
              have x1 : (m : Int) < (en : Int) := by omega
              have x2 : (a : Int) < (s : Int) := by omega
              have x3 : (s : Int) < (mid : Int) := by omega
              have x4 : ¬ (mid : Int) < (en : Int) := by omega
              have y4 : decide ((mid : Int) < (en : Int)) = false := decide_eq_false x4
              have x5 : (en : Int) < (b : Int) := by omega
              obtain ⟨w4, rfl⟩ : ∃ W, W = wr := ⟨_, rfl⟩
              have hb4' := hbw
              have H1 : Hid (w4.ownsRow base 2 1 (.slice (some ⟨g, 0, none⟩) n c) n ((L ++ (A.take (s - a) ++ (B.take (mid - s) ++ (A.drop (s - a) ++ (B.drop (mid - s) ++ R))))).flatMap cO)) := by
                show World.ownsRow _ _ _ _ _ _ _
                have h9 := hO.out
                rw [(take_fullO (l := A) (k := s - a) (by rw [HP.out]; omega)).1, (take_fullO (l := A) (k := s - a) (by rw [HP.out]; omega)).2, List.nil_append, ← List.append_assoc (B.take (mid - s)) (B.drop (mid - s)), List.take_append_drop]; exact h9
              have hbs4 := hbw0 hb4'
              go_wp2_with fail
              with_reducible refine (HIH.out L (A.take (s - a)) (B.take (mid - s)) (A.drop (s - a) ++ (B.drop (mid - s) ++ R)) a s mid _ H1.out HL.out (by rw [List.length_take, HP.out]; omega) (by rw [List.length_take, HQ.out]; omega) (by rw [List.length_take, HP.out]; omega) (by rw [List.length_take, HQ.out]; omega) (by rw [List.length_take, List.length_take, HP.out, HQ.out]; omega) (sd_take HSA.out _) (sd_take HSB.out _) (HT.out.sub (fun x => List.mem_of_mem_take) (fun x => List.mem_of_mem_take)) hbs4 (Lib.hid (HBW.out.below hb4'))).mono ?_
              rintro e w5 ⟨rfl, C1, ho5, sC1, pC1, hb5⟩
              have hb5' := hb4'.trans hb5
              have H2 : Hid (w5.ownsRow base 2 1 (.slice (some ⟨g, 0, none⟩) n c) n ((L ++ (C1 ++ (A.drop (s - a) ++ (B.drop (mid - s) ++ R)))).flatMap cO)) := ho5
              clear ho5 hb5
              have lC1 : C1.length = mid - a := by rw [pC1.length_eq, List.length_append, List.length_take, List.length_take, HP.out, HQ.out]; omega
              obtain ⟨w6, rfl⟩ : ∃ W, W = w5 := ⟨_, rfl⟩
              have hb6' := hb5'
              obtain ⟨C2, hC2⟩ : ∃ C, A.drop (s - a) ++ B.drop (mid - s) = C := ⟨_, rfl⟩
              have H4 : Hid (w6.ownsRow base 2 1 (.slice (some ⟨g, 0, none⟩) n c) n (((L ++ C1) ++ (C2 ++ R)).flatMap cO)) := by show World.ownsRow _ _ _ _ _ _ _; rw [← hC2, List.append_assoc, List.append_assoc (A.drop (s - a))]; exact H2.out
              have pC2 : C2.Perm (A.drop (s - a) ++ B.drop (mid - s)) := by rw [hC2]
              have sC2 : Sd (kyO bs) tgO C2 := by rw [← hC2]; rw [(take_fullO (l := A) (k := s - a) (by rw [HP.out]; omega)).2, List.nil_append]; exact sd_drop HSB.out _
              have HJ := Lib.hid (sd_join sC1 sC2 pC1 pC2 HX.out)
              clear sC1 sC2 pC1 pC2
              go_wp2
              all_goals
                refine bodyPost_end (v := .tuple #[]) (by simp [results, Try.results110, go_sem]) rfl ⟨rfl, C1 ++ C2, ?_, HJ.out.1, HJ.out.2, hb6'⟩
                have h9 := H4.out
                rw [show (L ++ C1) ++ (C2 ++ R) = L ++ ((C1 ++ C2) ++ R) by simp] at h9
                show World.ownsRow _ _ _ _ _ _ _
                simpa using h9
            · have x0 : ¬ (s : Int) < (m : Int) := by omega
              have y0 : decide ((s : Int) < (m : Int)) = false := decide_eq_false x0
              have x1 : (m : Int) < (en : Int) := by omega
              have x2 : (a : Int) < (s : Int) := by omega
              have x3 : (s : Int) < (mid : Int) := by omega
              have x4 : ¬ (mid : Int) < (en : Int) := by omega
              have y4 : decide ((mid : Int) < (en : Int)) = false := decide_eq_false x4
              have x5 : ¬ (en : Int) < (b : Int) := by omega
              have y5 : decide ((en : Int) < (b : Int)) = false := decide_eq_false x5
              obtain ⟨w4, rfl⟩ : ∃ W, W = wr := ⟨_, rfl⟩
              have hb4' := hbw
              have H1 : Hid (w4.ownsRow base 2 1 (.slice (some ⟨g, 0, none⟩) n c) n ((L ++ (A.take (s - a) ++ (B.take (mid - s) ++ (A.drop (s - a) ++ (B.drop (mid - s) ++ R))))).flatMap cO)) := by
                show World.ownsRow _ _ _ _ _ _ _
                have h9 := hO.out
                rw [(take_fullO (l := A) (k := s - a) (by rw [HP.out]; omega)).1, (take_fullO (l := A) (k := s - a) (by rw [HP.out]; omega)).2, List.nil_append, ← List.append_assoc (B.take (mid - s)) (B.drop (mid - s)), List.take_append_drop]; exact h9
              have hbs4 := hbw0 hb4'
              go_wp2_with fail
              with_reducible refine (HIH.out L (A.take (s - a)) (B.take (mid - s)) (A.drop (s - a) ++ (B.drop (mid - s) ++ R)) a s mid _ H1.out HL.out (by rw [List.length_take, HP.out]; omega) (by rw [List.length_take, HQ.out]; omega) (by rw [List.length_take, HP.out]; omega) (by rw [List.length_take, HQ.out]; omega) (by rw [List.length_take, List.length_take, HP.out, HQ.out]; omega) (sd_take HSA.out _) (sd_take HSB.out _) (HT.out.sub (fun x => List.mem_of_mem_take) (fun x => List.mem_of_mem_take)) hbs4 (Lib.hid (HBW.out.below hb4'))).mono ?_
              rintro e w5 ⟨rfl, C1, ho5, sC1, pC1, hb5⟩
              have hb5' := hb4'.trans hb5
              have H2 : Hid (w5.ownsRow base 2 1 (.slice (some ⟨g, 0, none⟩) n c) n ((L ++ (C1 ++ (A.drop (s - a) ++ (B.drop (mid - s) ++ R)))).flatMap cO)) := ho5
              clear ho5 hb5
              have lC1 : C1.length = mid - a := by rw [pC1.length_eq, List.length_append, List.length_take, List.length_take, HP.out, HQ.out]; omega
              obtain ⟨w6, rfl⟩ : ∃ W, W = w5 := ⟨_, rfl⟩
              have hb6' := hb5'
              obtain ⟨C2, hC2⟩ : ∃ C, A.drop (s - a) ++ B.drop (mid - s) = C := ⟨_, rfl⟩
              have H4 : Hid (w6.ownsRow base 2 1 (.slice (some ⟨g, 0, none⟩) n c) n (((L ++ C1) ++ (C2 ++ R)).flatMap cO)) := by show World.ownsRow _ _ _ _ _ _ _; rw [← hC2, List.append_assoc, List.append_assoc (A.drop (s - a))]; exact H2.out
              have pC2 : C2.Perm (A.drop (s - a) ++ B.drop (mid - s)) := by rw [hC2]
              have sC2 : Sd (kyO bs) tgO C2 := by rw [← hC2]; rw [(take_fullO (l := A) (k := s - a) (by rw [HP.out]; omega)).2, List.nil_append]; exact sd_drop HSB.out _
              have HJ := Lib.hid (sd_join sC1 sC2 pC1 pC2 HX.out)
              clear sC1 sC2 pC1 pC2
              go_wp2
              all_goals
                refine bodyPost_end (v := .tuple #[]) (by simp [results, Try.results110, go_sem]) rfl ⟨rfl, C1 ++ C2, ?_, HJ.out.1, HJ.out.2, hb6'⟩
                have h9 := H4.out
                rw [show (L ++ C1) ++ (C2 ++ R) = L ++ ((C1 ++ C2) ++ R) by simp] at h9
                show World.ownsRow _ _ _ _ _ _ _
                simpa using h9
        · by_cases kA : s < m
          · have x0 : (s : Int) < (m : Int) := by omega
            have x1 : ¬ (m : Int) < (en : Int) := by omega
            have y1 : decide ((m : Int) < (en : Int)) = false := decide_eq_false x1
            have x2 : (a : Int) < (s : Int) := by omega
            have x3 : ¬ (s : Int) < (mid : Int) := by omega
            have y3 : decide ((s : Int) < (mid : Int)) = false := decide_eq_false x3
            have x4 : (mid : Int) < (en : Int) := by omega
            have x5 : (en : Int) < (b : Int) := by omega
            obtain ⟨w4, rfl⟩ : ∃ W, W = wr := ⟨_, rfl⟩
            have hb4' := hbw
            have H1 : Hid (w4.ownsRow base 2 1 (.slice (some ⟨g, 0, none⟩) n c) n ((L ++ (A.take (s - a) ++ (B.take (mid - s) ++ (A.drop (s - a) ++ (B.drop (mid - s) ++ R))))).flatMap cO)) := by
              show World.ownsRow _ _ _ _ _ _ _
              have h9 := hO.out
              rw [show B.take (mid - s) = [] from take_nilO (by omega), List.nil_append, ← List.append_assoc (A.take (s - a)) (A.drop (s - a)), List.take_append_drop, show B.drop (mid - s) = B from by rw [show mid - s = 0 by omega]; rfl]; exact h9
            obtain ⟨w5, rfl⟩ : ∃ W, W = w4 := ⟨_, rfl⟩
            have hb5' := hb4'
            obtain ⟨C1, hC1⟩ : ∃ C, A.take (s - a) ++ B.take (mid - s) = C := ⟨_, rfl⟩
            have H2 : Hid (w5.ownsRow base 2 1 (.slice (some ⟨g, 0, none⟩) n c) n ((L ++ (C1 ++ (A.drop (s - a) ++ (B.drop (mid - s) ++ R)))).flatMap cO)) := by show World.ownsRow _ _ _ _ _ _ _; rw [← hC1, List.append_assoc]; exact H1.out
            have pC1 : C1.Perm (A.take (s - a) ++ B.take (mid - s)) := by rw [hC1]
            have sC1 : Sd (kyO bs) tgO C1 := by rw [← hC1]; rw [show B.take (mid - s) = [] from take_nilO (by omega), List.append_nil]; exact sd_take HSA.out _
            have lC1 : C1.length = mid - a := by rw [pC1.length_eq, List.length_append, List.length_take, List.length_take, HP.out, HQ.out]; omega
            have hbs5 := hbw0 hb5'
            have H3 : Hid (w5.ownsRow base 2 1 (.slice (some ⟨g, 0, none⟩) n c) n (((L ++ C1) ++ (A.drop (s - a) ++ (B.drop (mid - s) ++ R))).flatMap cO)) := by show World.ownsRow _ _ _ _ _ _ _; rw [List.append_assoc]; exact H2.out
            go_wp2_with fail
            with_reducible refine (HIH.out (L ++ C1) (A.drop (s - a)) (B.drop (mid - s)) R mid en b _ H3.out (by rw [List.length_append, HL.out, lC1]; omega) (by rw [List.length_drop, HP.out]; omega) (by rw [List.length_drop, HQ.out]; omega) (by rw [List.length_drop, HP.out]; omega) (by rw [List.length_drop, HQ.out]; omega) (by rw [List.length_drop, List.length_drop, HP.out, HQ.out]; omega) (sd_drop HSA.out _) (sd_drop HSB.out _) (HT.out.sub (fun x => List.mem_of_mem_drop) (fun x => List.mem_of_mem_drop)) hbs5 (Lib.hid (HBW.out.below hb5'))).mono ?_
            rintro e w6 ⟨rfl, C2, ho6, sC2, pC2, hb6⟩
            have hb6' := hb5'.trans hb6
            have H4 : Hid (w6.ownsRow base 2 1 (.slice (some ⟨g, 0, none⟩) n c) n (((L ++ C1) ++ (C2 ++ R)).flatMap cO)) := ho6
            clear ho6 hb6
            have HJ := Lib.hid (sd_join sC1 sC2 pC1 pC2 HX.out)
            clear sC1 sC2 pC1 pC2
            go_wp2
            all_goals
              refine bodyPost_end (v := .tuple #[]) (by simp [results, Try.results110, go_sem]) rfl ⟨rfl, C1 ++ C2, ?_, HJ.out.1, HJ.out.2, hb6'⟩
              have h9 := H4.out
              rw [show (L ++ C1) ++ (C2 ++ R) = L ++ ((C1 ++ C2) ++ R) by simp] at h9
              show World.ownsRow _ _ _ _ _ _ _
              simpa using h9
          · have x0 : ¬ (s : Int) < (m : Int) := by omega
            have y0 : decide ((s : Int) < (m : Int)) = false := decide_eq_false x0
            have x1 : ¬ (m : Int) < (en : Int) := by omega
            have y1 : decide ((m : Int) < (en : Int)) = false := decide_eq_false x1
            have x2 : (a : Int) < (s : Int) := by omega
            have x3 : ¬ (s : Int) < (mid : Int) := by omega
            have y3 : decide ((s : Int) < (mid : Int)) = false := decide_eq_false x3
            have x4 : ¬ (mid : Int) < (en : Int) := by omega
            have y4 : decide ((mid : Int) < (en : Int)) = false := decide_eq_false x4
            have x5 : (en : Int) < (b : Int) := by omega
            obtain ⟨w4, rfl⟩ : ∃ W, W = wr := ⟨_, rfl⟩
            have hb4' := hbw
            have H1 : Hid (w4.ownsRow base 2 1 (.slice (some ⟨g, 0, none⟩) n c) n ((L ++ (A.take (s - a) ++ (B.take (mid - s) ++ (A.drop (s - a) ++ (B.drop (mid - s) ++ R))))).flatMap cO)) := by
              show World.ownsRow _ _ _ _ _ _ _
              have h9 := hO.out
              rw [show B.take (mid - s) = [] from take_nilO (by omega), List.nil_append, ← List.append_assoc (A.take (s - a)) (A.drop (s - a)), List.take_append_drop, show B.drop (mid - s) = B from by rw [show mid - s = 0 by omega]; rfl]; exact h9
            obtain ⟨w5, rfl⟩ : ∃ W, W = w4 := ⟨_, rfl⟩
            have hb5' := hb4'
            obtain ⟨C1, hC1⟩ : ∃ C, A.take (s - a) ++ B.take (mid - s) = C := ⟨_, rfl⟩
            have H2 : Hid (w5.ownsRow base 2 1 (.slice (some ⟨g, 0, none⟩) n c) n ((L ++ (C1 ++ (A.drop (s - a) ++ (B.drop (mid - s) ++ R)))).flatMap cO)) := by show World.ownsRow _ _ _ _ _ _ _; rw [← hC1, List.append_assoc]; exact H1.out
            have pC1 : C1.Perm (A.take (s - a) ++ B.take (mid - s)) := by rw [hC1]
            have sC1 : Sd (kyO bs) tgO C1 := by rw [← hC1]; rw [show B.take (mid - s) = [] from take_nilO (by omega), List.append_nil]; exact sd_take HSA.out _
            have lC1 : C1.length = mid - a := by rw [pC1.length_eq, List.length_append, List.length_take, List.length_take, HP.out, HQ.out]; omega
            obtain ⟨w6, rfl⟩ : ∃ W, W = w5 := ⟨_, rfl⟩
            have hb6' := hb5'
            obtain ⟨C2, hC2⟩ : ∃ C, A.drop (s - a) ++ B.drop (mid - s) = C := ⟨_, rfl⟩
            have H4 : Hid (w6.ownsRow base 2 1 (.slice (some ⟨g, 0, none⟩) n c) n (((L ++ C1) ++ (C2 ++ R)).flatMap cO)) := by show World.ownsRow _ _ _ _ _ _ _; rw [← hC2, List.append_assoc, List.append_assoc (A.drop (s - a))]; exact H2.out
            have pC2 : C2.Perm (A.drop (s - a) ++ B.drop (mid - s)) := by rw [hC2]
            have sC2 : Sd (kyO bs) tgO C2 := by rw [← hC2]; rw [(take_fullO (l := A) (k := s - a) (by rw [HP.out]; omega)).2, List.nil_append]; exact sd_drop HSB.out _
            have HJ := Lib.hid (sd_join sC1 sC2 pC1 pC2 HX.out)
            clear sC1 sC2 pC1 pC2
            go_wp2
            all_goals
              refine bodyPost_end (v := .tuple #[]) (by simp [results, Try.results110, go_sem]) rfl ⟨rfl, C1 ++ C2, ?_, HJ.out.1, HJ.out.2, hb6'⟩
              have h9 := H4.out
              rw [show (L ++ C1) ++ (C2 ++ R) = L ++ ((C1 ++ C2) ++ R) by simp] at h9
              show World.ownsRow _ _ _ _ _ _ _
              simpa using h9
  · have i1 : ¬ (mid : Int) < (m : Int) := by omega
    have i1d : decide ((mid : Int) < (m : Int)) = false := decide_eq_false i1
    have hSR : (a = nn - b ∧ m = mid ∧ mid < m) ∨ (a = a ∧ m = m ∧ m ≤ mid) := .inr ⟨rfl, rfl, by omega⟩
    clear hmm
    go_wp2_with fail
    clear i1 i1d
    have q1 : a ≤ a := by omega
    have q2 : a ≤ m := by omega
    have q3 : m ≤ mid := by omega
    have q4 : m ≤ m := by omega
    have q5 : mid ≤ a + q := by omega
    go_loopw [20, 21] (fun i j wr => ∃ s t : Nat, i = .int .i64 (s : Int) ∧ j = .int .i64 (t : Int) ∧ a ≤ s ∧ s ≤ t ∧ t ≤ m ∧ Below base w wr ∧ Hid (wr.ownsRow base 2 1 (.slice (some ⟨g, 0, none⟩) n c) n ((L ++ (A ++ (B ++ R))).flatMap cO)) ∧ Hid (s = a ∨ ∃ x y, A[s - a - 1]? = some x ∧ B[mid - s]? = some y ∧ kyO bs x ≤ kyO bs y) ∧ Hid (t = m ∨ ∃ x y, A[t - a]? = some x ∧ B[mid - t - 1]? = some y ∧ kyO bs y < kyO bs x)) (fun i j _ => (intOf j).toNat - (intOf i).toNat)
    case atStart => exact ⟨a, m, rfl, rfl, Nat.le_refl _, q2, Nat.le_refl _, Below.refl _ _, HO.out, .inl rfl, .inl rfl⟩
    case round =>
      clear HO
      obtain ⟨s, t, rfl, rfl, hms, hst, htb, hbw, hO, h1, h2⟩ := hrel
      have hgw : g < wr.heap.size := (hO.out.lt g rfl).2
      by_cases hlt : s < t
      · obtain ⟨h, hh⟩ : ∃ h, (s + t) / 2 = h := ⟨_, rfl⟩
        have eh : ((s : Int) + (t : Int)) / 2 = (h : Int) := by omega
        obtain ⟨j, hj⟩ : ∃ j, nn - 1 - h = j := ⟨_, rfl⟩
        obtain ⟨x0, hx⟩ : ∃ z, A[h - a]? = some z := ⟨_, List.getElem?_eq_getElem (by rw [HP.out]; omega)⟩
        obtain ⟨y0, hy⟩ : ∃ z, B[mid - h - 1]? = some z := ⟨_, List.getElem?_eq_getElem (by rw [HQ.out]; omega)⟩
        have g1 : (L ++ (A ++ (B ++ R)))[h]? = some x0 := by
          rw [List.getElem?_append_right (by rw [HL.out]; omega), HL.out, List.getElem?_append_left (by rw [HP.out]; omega)]; exact hx
        have g2 : (L ++ (A ++ (B ++ R)))[j]? = some y0 := by
          rw [List.getElem?_append_right (by rw [HL.out]; omega), HL.out, List.getElem?_append_right (by rw [HP.out]; omega), HP.out, List.getElem?_append_left (by rw [HQ.out]; omega), show j - a - p = mid - h - 1 by omega]; exact hy
        obtain ⟨p0, pf0⟩ := own_atO hO.out g1
        obtain ⟨r0, rf0⟩ := own_atO hO.out g2
        have HXX := Lib.hid hx
        have HYY := Lib.hid hy
        have o6 : IntKind.i64.wrap (((nn - 1 : Nat) : Int) - (h : Int)) = (j : Int) := by rw [IntWalk.i64_in _ (by omega)]; omega
        have i1 : (s : Int) < (t : Int) := by omega
        have i2 : (h : Int) < (n : Int) := by omega
        have i3 : (0 : Int) ≤ (h : Int) := by omega
        have i4 : (j : Int) < (n : Int) := by omega
        have i5 : (0 : Int) ≤ (j : Int) := by omega
        clear g1 g2 hx hy
        go_wp2_with fail
        try rw [eh]
        go_region_held3 (fun w' => (∀ b o, b < wr.heap.size → w'.cell? ⟨b, o, none⟩ = wr.cell? ⟨b, o, none⟩) ∧ Below wr.heap.size wr w') (first | exact sk (Below.refl _ _).drew | (go_split_ands; exact sk (below_app ‹_› hbw2 (Below.size ‹_›)))) (first | (go_at_call 54; with_reducible refine (cmpB_any y0 x0 _ ((HBW.out.below hbw).below (Below.refl _ _).drew)).mono ?_; rintro e w2 ⟨rfl, hbw2⟩))
        go_split_ands
        have hb2 : Below wr.heap.size wr w2 := ‹Below wr.heap.size wr w2›
        have hbb := hbw.trans (hb2.mono (hbw0 hbw))
        have HO2 := Lib.hid (own_below hO.out hb2)
        clear p0 r0 pf0 rf0
        by_cases hc : kyO bs y0 < kyO bs x0
        · rw [cmpV_lt1 hc]
          go_wp2
          exact ⟨⟨s, h, rfl, rfl, hms, by omega, by omega, hbb, HO2.out, h1, .inr ⟨x0, y0, HXX.out, HYY.out, hc⟩⟩, by simp [intOf]; omega⟩
        · have hc9 : kyO bs x0 ≤ kyO bs y0 := by omega
          rcases cmpV_ge1 hc with hv | hv
          all_goals
            rw [hv]
            go_wp2
            exact ⟨⟨h + 1, t, by go_num, rfl, by omega, by omega, htb, hbb, HO2.out, .inr ⟨x0, y0, by rw [show h + 1 - a - 1 = h - a by omega]; exact HXX.out, by rw [show mid - (h + 1) = mid - h - 1 by omega]; exact HYY.out, hc9⟩, h2⟩, by simp [intOf]; omega⟩
      · have hst2 : s = t := by omega
        subst hst2
        have HX := Lib.hid (sd_cross (s := s - a) (e := mid - s) HSA.out HSB.out HT.out (by
          rcases h1.out with h9 | ⟨x, y, e1, e2, e3⟩
          · rcases hSR with ⟨u1, u2, u3⟩ | ⟨u1, u2, u3⟩
            · exact .inr (.inl (by rw [HQ.out]; omega))
            · exact .inl (by omega)
          · exact .inr (.inr ⟨x, y, e1, e2, by omega⟩)) (by
          rcases h2.out with h9 | ⟨x, y, e1, e2, e3⟩
          · rcases hSR with ⟨u1, u2, u3⟩ | ⟨u1, u2, u3⟩
            · exact .inr (.inl (by omega))
            · exact .inl (by rw [HP.out]; omega)
          · exact .inr (.inr ⟨x, y, e1, e2, e3⟩)))
        obtain ⟨en, hen⟩ : ∃ en, nn - s = en := ⟨_, rfl⟩
        have o7 : IntKind.i64.wrap ((nn : Int) - (s : Int)) = (en : Int) := by rw [IntWalk.i64_in _ (by omega)]; omega
        have i1 : ¬ (s : Int) < (s : Int) := by omega
        clear h1 h2
        by_cases kB : s < mid
        · by_cases kA : s < m
          · by_cases k1 : a < s
            · by_cases k4 : en < b
              · have x0 : (s : Int) < (m : Int) := by omega
                have x1 : (m : Int) < (en : Int) := by omega
                have x2 : (a : Int) < (s : Int) := by omega
                have x3 : (s : Int) < (mid : Int) := by omega
                have x4 : (mid : Int) < (en : Int) := by omega
                have x5 : (en : Int) < (b : Int) := by omega
                have HRo : Hid (wr.ownsRow base 2 1 (.slice (some ⟨g, 0, none⟩) n c) n (((L ++ A.take (s - a)) ++ (A.drop (s - a) ++ (B.take (mid - s) ++ (B.drop (mid - s) ++ R)))).flatMap cO)) := by show World.ownsRow _ _ _ _ _ _ _; rw [List.append_assoc, ← List.append_assoc (A.take (s - a)) (A.drop (s - a)), List.take_append_drop, ← List.append_assoc (B.take (mid - s)) (B.drop (mid - s)), List.take_append_drop]; exact hO.out
                go_wp2_with fail
                with_reducible refine (rotateO_any g n c base s m en (.func (.func 54) #[] #[.pointer (some ⟨gp, 0, none⟩)]) (L ++ A.take (s - a)) (A.drop (s - a)) (B.take (mid - s)) (B.drop (mid - s) ++ R) _ HRo.out (by rw [List.length_append, List.length_take, HL.out, HP.out]; omega) (by rw [List.length_drop, HP.out]; omega) (by rw [List.length_take, HQ.out]; omega) (by rw [List.length_drop, HP.out]; omega) (by rw [List.length_take, HQ.out]; omega) hn).mono ?_
                rintro e w4 ⟨rfl, ho4, hb4⟩
                have hb4' := hbw.trans hb4
                have H1 : Hid (w4.ownsRow base 2 1 (.slice (some ⟨g, 0, none⟩) n c) n ((L ++ (A.take (s - a) ++ (B.take (mid - s) ++ (A.drop (s - a) ++ (B.drop (mid - s) ++ R))))).flatMap cO)) := by show World.ownsRow _ _ _ _ _ _ _; rw [List.append_assoc] at ho4; exact ho4
                clear ho4 hb4 HRo
                have hbs4 := hbw0 hb4'
                go_wp2_with fail
                with_reducible refine (HIH.out L (A.take (s - a)) (B.take (mid - s)) (A.drop (s - a) ++ (B.drop (mid - s) ++ R)) a s mid _ H1.out HL.out (by rw [List.length_take, HP.out]; omega) (by rw [List.length_take, HQ.out]; omega) (by rw [List.length_take, HP.out]; omega) (by rw [List.length_take, HQ.out]; omega) (by rw [List.length_take, List.length_take, HP.out, HQ.out]; omega) (sd_take HSA.out _) (sd_take HSB.out _) (HT.out.sub (fun x => List.mem_of_mem_take) (fun x => List.mem_of_mem_take)) hbs4 (Lib.hid (HBW.out.below hb4'))).mono ?_
                rintro e w5 ⟨rfl, C1, ho5, sC1, pC1, hb5⟩
                have hb5' := hb4'.trans hb5
                have H2 : Hid (w5.ownsRow base 2 1 (.slice (some ⟨g, 0, none⟩) n c) n ((L ++ (C1 ++ (A.drop (s - a) ++ (B.drop (mid - s) ++ R)))).flatMap cO)) := ho5
                clear ho5 hb5
                have lC1 : C1.length = mid - a := by rw [pC1.length_eq, List.length_append, List.length_take, List.length_take, HP.out, HQ.out]; omega
                have hbs5 := hbw0 hb5'
                have H3 : Hid (w5.ownsRow base 2 1 (.slice (some ⟨g, 0, none⟩) n c) n (((L ++ C1) ++ (A.drop (s - a) ++ (B.drop (mid - s) ++ R))).flatMap cO)) := by show World.ownsRow _ _ _ _ _ _ _; rw [List.append_assoc]; exact H2.out
                go_wp2_with fail
                with_reducible refine (HIH.out (L ++ C1) (A.drop (s - a)) (B.drop (mid - s)) R mid en b _ H3.out (by rw [List.length_append, HL.out, lC1]; omega) (by rw [List.length_drop, HP.out]; omega) (by rw [List.length_drop, HQ.out]; omega) (by rw [List.length_drop, HP.out]; omega) (by rw [List.length_drop, HQ.out]; omega) (by rw [List.length_drop, List.length_drop, HP.out, HQ.out]; omega) (sd_drop HSA.out _) (sd_drop HSB.out _) (HT.out.sub (fun x => List.mem_of_mem_drop) (fun x => List.mem_of_mem_drop)) hbs5 (Lib.hid (HBW.out.below hb5'))).mono ?_
                rintro e w6 ⟨rfl, C2, ho6, sC2, pC2, hb6⟩
                have hb6' := hb5'.trans hb6
                have H4 : Hid (w6.ownsRow base 2 1 (.slice (some ⟨g, 0, none⟩) n c) n (((L ++ C1) ++ (C2 ++ R)).flatMap cO)) := ho6
                clear ho6 hb6
                have HJ := Lib.hid (sd_join sC1 sC2 pC1 pC2 HX.out)
                clear sC1 sC2 pC1 pC2
                go_wp2
                all_goals
                  refine bodyPost_end (v := .tuple #[]) (by simp [results, Try.results110, go_sem]) rfl ⟨rfl, C1 ++ C2, ?_, HJ.out.1, HJ.out.2, hb6'⟩
                  have h9 := H4.out
                  rw [show (L ++ C1) ++ (C2 ++ R) = L ++ ((C1 ++ C2) ++ R) by simp] at h9
                  show World.ownsRow _ _ _ _ _ _ _
                  simpa using h9
              · have x0 : (s : Int) < (m : Int) := by omega
                have x1 : (m : Int) < (en : Int) := by omega
                have x2 : (a : Int) < (s : Int) := by omega
                have x3 : (s : Int) < (mid : Int) := by omega
                have x4 : (mid : Int) < (en : Int) := by omega
                have x5 : ¬ (en : Int) < (b : Int) := by omega
                have y5 : decide ((en : Int) < (b : Int)) = false := decide_eq_false x5
                have HRo : Hid (wr.ownsRow base 2 1 (.slice (some ⟨g, 0, none⟩) n c) n (((L ++ A.take (s - a)) ++ (A.drop (s - a) ++ (B.take (mid - s) ++ (B.drop (mid - s) ++ R)))).flatMap cO)) := by show World.ownsRow _ _ _ _ _ _ _; rw [List.append_assoc, ← List.append_assoc (A.take (s - a)) (A.drop (s - a)), List.take_append_drop, ← List.append_assoc (B.take (mid - s)) (B.drop (mid - s)), List.take_append_drop]; exact hO.out
                go_wp2_with fail
                with_reducible refine (rotateO_any g n c base s m en (.func (.func 54) #[] #[.pointer (some ⟨gp, 0, none⟩)]) (L ++ A.take (s - a)) (A.drop (s - a)) (B.take (mid - s)) (B.drop (mid - s) ++ R) _ HRo.out (by rw [List.length_append, List.length_take, HL.out, HP.out]; omega) (by rw [List.length_drop, HP.out]; omega) (by rw [List.length_take, HQ.out]; omega) (by rw [List.length_drop, HP.out]; omega) (by rw [List.length_take, HQ.out]; omega) hn).mono ?_
                rintro e w4 ⟨rfl, ho4, hb4⟩
                have hb4' := hbw.trans hb4
                have H1 : Hid (w4.ownsRow base 2 1 (.slice (some ⟨g, 0, none⟩) n c) n ((L ++ (A.take (s - a) ++ (B.take (mid - s) ++ (A.drop (s - a) ++ (B.drop (mid - s) ++ R))))).flatMap cO)) := by show World.ownsRow _ _ _ _ _ _ _; rw [List.append_assoc] at ho4; exact ho4
                clear ho4 hb4 HRo
                have hbs4 := hbw0 hb4'
                go_wp2_with fail
                with_reducible refine (HIH.out L (A.take (s - a)) (B.take (mid - s)) (A.drop (s - a) ++ (B.drop (mid - s) ++ R)) a s mid _ H1.out HL.out (by rw [List.length_take, HP.out]; omega) (by rw [List.length_take, HQ.out]; omega) (by rw [List.length_take, HP.out]; omega) (by rw [List.length_take, HQ.out]; omega) (by rw [List.length_take, List.length_take, HP.out, HQ.out]; omega) (sd_take HSA.out _) (sd_take HSB.out _) (HT.out.sub (fun x => List.mem_of_mem_take) (fun x => List.mem_of_mem_take)) hbs4 (Lib.hid (HBW.out.below hb4'))).mono ?_
                rintro e w5 ⟨rfl, C1, ho5, sC1, pC1, hb5⟩
                have hb5' := hb4'.trans hb5
                have H2 : Hid (w5.ownsRow base 2 1 (.slice (some ⟨g, 0, none⟩) n c) n ((L ++ (C1 ++ (A.drop (s - a) ++ (B.drop (mid - s) ++ R)))).flatMap cO)) := ho5
                clear ho5 hb5
                have lC1 : C1.length = mid - a := by rw [pC1.length_eq, List.length_append, List.length_take, List.length_take, HP.out, HQ.out]; omega
                obtain ⟨w6, rfl⟩ : ∃ W, W = w5 := ⟨_, rfl⟩
                have hb6' := hb5'
                obtain ⟨C2, hC2⟩ : ∃ C, A.drop (s - a) ++ B.drop (mid - s) = C := ⟨_, rfl⟩
                have H4 : Hid (w6.ownsRow base 2 1 (.slice (some ⟨g, 0, none⟩) n c) n (((L ++ C1) ++ (C2 ++ R)).flatMap cO)) := by show World.ownsRow _ _ _ _ _ _ _; rw [← hC2, List.append_assoc, List.append_assoc (A.drop (s - a))]; exact H2.out
                have pC2 : C2.Perm (A.drop (s - a) ++ B.drop (mid - s)) := by rw [hC2]
                have sC2 : Sd (kyO bs) tgO C2 := by rw [← hC2]; rw [(take_fullO (l := B) (k := mid - s) (by rw [HQ.out]; omega)).2, List.append_nil]; exact sd_drop HSA.out _
                have HJ := Lib.hid (sd_join sC1 sC2 pC1 pC2 HX.out)
                clear sC1 sC2 pC1 pC2
                go_wp2
                all_goals
                  refine bodyPost_end (v := .tuple #[]) (by simp [results, Try.results110, go_sem]) rfl ⟨rfl, C1 ++ C2, ?_, HJ.out.1, HJ.out.2, hb6'⟩
                  have h9 := H4.out
                  rw [show (L ++ C1) ++ (C2 ++ R) = L ++ ((C1 ++ C2) ++ R) by simp] at h9
                  show World.ownsRow _ _ _ _ _ _ _
                  simpa using h9
            · by_cases k4 : en < b
              · have x0 : (s : Int) < (m : Int) := by omega
                have x1 : (m : Int) < (en : Int) := by omega
                have x2 : ¬ (a : Int) < (s : Int) := by omega
                have y2 : decide ((a : Int) < (s : Int)) = false := decide_eq_false x2
                have x3 : (s : Int) < (mid : Int) := by omega
                have x4 : (mid : Int) < (en : Int) := by omega
                have x5 : (en : Int) < (b : Int) := by omega
                have HRo : Hid (wr.ownsRow base 2 1 (.slice (some ⟨g, 0, none⟩) n c) n (((L ++ A.take (s - a)) ++ (A.drop (s - a) ++ (B.take (mid - s) ++ (B.drop (mid - s) ++ R)))).flatMap cO)) := by show World.ownsRow _ _ _ _ _ _ _; rw [List.append_assoc, ← List.append_assoc (A.take (s - a)) (A.drop (s - a)), List.take_append_drop, ← List.append_assoc (B.take (mid - s)) (B.drop (mid - s)), List.take_append_drop]; exact hO.out
                go_wp2_with fail
                with_reducible refine (rotateO_any g n c base s m en (.func (.func 54) #[] #[.pointer (some ⟨gp, 0, none⟩)]) (L ++ A.take (s - a)) (A.drop (s - a)) (B.take (mid - s)) (B.drop (mid - s) ++ R) _ HRo.out (by rw [List.length_append, List.length_take, HL.out, HP.out]; omega) (by rw [List.length_drop, HP.out]; omega) (by rw [List.length_take, HQ.out]; omega) (by rw [List.length_drop, HP.out]; omega) (by rw [List.length_take, HQ.out]; omega) hn).mono ?_
                rintro e w4 ⟨rfl, ho4, hb4⟩
                have hb4' := hbw.trans hb4
                have H1 : Hid (w4.ownsRow base 2 1 (.slice (some ⟨g, 0, none⟩) n c) n ((L ++ (A.take (s - a) ++ (B.take (mid - s) ++ (A.drop (s - a) ++ (B.drop (mid - s) ++ R))))).flatMap cO)) := by show World.ownsRow _ _ _ _ _ _ _; rw [List.append_assoc] at ho4; exact ho4
                clear ho4 hb4 HRo
                obtain ⟨w5, rfl⟩ : ∃ W, W = w4 := ⟨_, rfl⟩
                have hb5' := hb4'
                obtain ⟨C1, hC1⟩ : ∃ C, A.take (s - a) ++ B.take (mid - s) = C := ⟨_, rfl⟩
                have H2 : Hid (w5.ownsRow base 2 1 (.slice (some ⟨g, 0, none⟩) n c) n ((L ++ (C1 ++ (A.drop (s - a) ++ (B.drop (mid - s) ++ R)))).flatMap cO)) := by show World.ownsRow _ _ _ _ _ _ _; rw [← hC1, List.append_assoc]; exact H1.out
                have pC1 : C1.Perm (A.take (s - a) ++ B.take (mid - s)) := by rw [hC1]
                have sC1 : Sd (kyO bs) tgO C1 := by rw [← hC1]; rw [show A.take (s - a) = [] from take_nilO (by omega), List.nil_append]; exact sd_take HSB.out _
                have lC1 : C1.length = mid - a := by rw [pC1.length_eq, List.length_append, List.length_take, List.length_take, HP.out, HQ.out]; omega
                have hbs5 := hbw0 hb5'
                have H3 : Hid (w5.ownsRow base 2 1 (.slice (some ⟨g, 0, none⟩) n c) n (((L ++ C1) ++ (A.drop (s - a) ++ (B.drop (mid - s) ++ R))).flatMap cO)) := by show World.ownsRow _ _ _ _ _ _ _; rw [List.append_assoc]; exact H2.out
                go_wp2_with fail
                with_reducible refine (HIH.out (L ++ C1) (A.drop (s - a)) (B.drop (mid - s)) R mid en b _ H3.out (by rw [List.length_append, HL.out, lC1]; omega) (by rw [List.length_drop, HP.out]; omega) (by rw [List.length_drop, HQ.out]; omega) (by rw [List.length_drop, HP.out]; omega) (by rw [List.length_drop, HQ.out]; omega) (by rw [List.length_drop, List.length_drop, HP.out, HQ.out]; omega) (sd_drop HSA.out _) (sd_drop HSB.out _) (HT.out.sub (fun x => List.mem_of_mem_drop) (fun x => List.mem_of_mem_drop)) hbs5 (Lib.hid (HBW.out.below hb5'))).mono ?_
                rintro e w6 ⟨rfl, C2, ho6, sC2, pC2, hb6⟩
                have hb6' := hb5'.trans hb6
                have H4 : Hid (w6.ownsRow base 2 1 (.slice (some ⟨g, 0, none⟩) n c) n (((L ++ C1) ++ (C2 ++ R)).flatMap cO)) := ho6
                clear ho6 hb6
                have HJ := Lib.hid (sd_join sC1 sC2 pC1 pC2 HX.out)
                clear sC1 sC2 pC1 pC2
                go_wp2
                all_goals
                  refine bodyPost_end (v := .tuple #[]) (by simp [results, Try.results110, go_sem]) rfl ⟨rfl, C1 ++ C2, ?_, HJ.out.1, HJ.out.2, hb6'⟩
                  have h9 := H4.out
                  rw [show (L ++ C1) ++ (C2 ++ R) = L ++ ((C1 ++ C2) ++ R) by simp] at h9
                  show World.ownsRow _ _ _ _ _ _ _
                  simpa using h9
              · have x0 : (s : Int) < (m : Int) := by omega
                have x1 : (m : Int) < (en : Int) := by omega
                have x2 : ¬ (a : Int) < (s : Int) := by omega
                have y2 : decide ((a : Int) < (s : Int)) = false := decide_eq_false x2
                have x3 : (s : Int) < (mid : Int) := by omega
                have x4 : (mid : Int) < (en : Int) := by omega
                have x5 : ¬ (en : Int) < (b : Int) := by omega
                have y5 : decide ((en : Int) < (b : Int)) = false := decide_eq_false x5
                have HRo : Hid (wr.ownsRow base 2 1 (.slice (some ⟨g, 0, none⟩) n c) n (((L ++ A.take (s - a)) ++ (A.drop (s - a) ++ (B.take (mid - s) ++ (B.drop (mid - s) ++ R)))).flatMap cO)) := by show World.ownsRow _ _ _ _ _ _ _; rw [List.append_assoc, ← List.append_assoc (A.take (s - a)) (A.drop (s - a)), List.take_append_drop, ← List.append_assoc (B.take (mid - s)) (B.drop (mid - s)), List.take_append_drop]; exact hO.out
                go_wp2_with fail
                with_reducible refine (rotateO_any g n c base s m en (.func (.func 54) #[] #[.pointer (some ⟨gp, 0, none⟩)]) (L ++ A.take (s - a)) (A.drop (s - a)) (B.take (mid - s)) (B.drop (mid - s) ++ R) _ HRo.out (by rw [List.length_append, List.length_take, HL.out, HP.out]; omega) (by rw [List.length_drop, HP.out]; omega) (by rw [List.length_take, HQ.out]; omega) (by rw [List.length_drop, HP.out]; omega) (by rw [List.length_take, HQ.out]; omega) hn).mono ?_
                rintro e w4 ⟨rfl, ho4, hb4⟩
                have hb4' := hbw.trans hb4
                have H1 : Hid (w4.ownsRow base 2 1 (.slice (some ⟨g, 0, none⟩) n c) n ((L ++ (A.take (s - a) ++ (B.take (mid - s) ++ (A.drop (s - a) ++ (B.drop (mid - s) ++ R))))).flatMap cO)) := by show World.ownsRow _ _ _ _ _ _ _; rw [List.append_assoc] at ho4; exact ho4
                clear ho4 hb4 HRo
                obtain ⟨w5, rfl⟩ : ∃ W, W = w4 := ⟨_, rfl⟩
                have hb5' := hb4'
                obtain ⟨C1, hC1⟩ : ∃ C, A.take (s - a) ++ B.take (mid - s) = C := ⟨_, rfl⟩
                have H2 : Hid (w5.ownsRow base 2 1 (.slice (some ⟨g, 0, none⟩) n c) n ((L ++ (C1 ++ (A.drop (s - a) ++ (B.drop (mid - s) ++ R)))).flatMap cO)) := by show World.ownsRow _ _ _ _ _ _ _; rw [← hC1, List.append_assoc]; exact H1.out
                have pC1 : C1.Perm (A.take (s - a) ++ B.take (mid - s)) := by rw [hC1]
                have sC1 : Sd (kyO bs) tgO C1 := by rw [← hC1]; rw [show A.take (s - a) = [] from take_nilO (by omega), List.nil_append]; exact sd_take HSB.out _
                have lC1 : C1.length = mid - a := by rw [pC1.length_eq, List.length_append, List.length_take, List.length_take, HP.out, HQ.out]; omega
                obtain ⟨w6, rfl⟩ : ∃ W, W = w5 := ⟨_, rfl⟩
                have hb6' := hb5'
                obtain ⟨C2, hC2⟩ : ∃ C, A.drop (s - a) ++ B.drop (mid - s) = C := ⟨_, rfl⟩
                have H4 : Hid (w6.ownsRow base 2 1 (.slice (some ⟨g, 0, none⟩) n c) n (((L ++ C1) ++ (C2 ++ R)).flatMap cO)) := by show World.ownsRow _ _ _ _ _ _ _; rw [← hC2, List.append_assoc, List.append_assoc (A.drop (s - a))]; exact H2.out
                have pC2 : C2.Perm (A.drop (s - a) ++ B.drop (mid - s)) := by rw [hC2]
                have sC2 : Sd (kyO bs) tgO C2 := by rw [← hC2]; rw [(take_fullO (l := B) (k := mid - s) (by rw [HQ.out]; omega)).2, List.append_nil]; exact sd_drop HSA.out _
                have HJ := Lib.hid (sd_join sC1 sC2 pC1 pC2 HX.out)
                clear sC1 sC2 pC1 pC2
                go_wp2
                all_goals
                  refine bodyPost_end (v := .tuple #[]) (by simp [results, Try.results110, go_sem]) rfl ⟨rfl, C1 ++ C2, ?_, HJ.out.1, HJ.out.2, hb6'⟩
                  have h9 := H4.out
                  rw [show (L ++ C1) ++ (C2 ++ R) = L ++ ((C1 ++ C2) ++ R) by simp] at h9
                  show World.ownsRow _ _ _ _ _ _ _
                  simpa using h9
          · by_cases k4 : en < b
            · have x0 : ¬ (s : Int) < (m : Int) := by omega
              have y0 : decide ((s : Int) < (m : Int)) = false := decide_eq_false x0
              have x1 : (m : Int) < (en : Int) := by omega
              have x2 : (a : Int) < (s : Int) := by omega
              have x3 : (s : Int) < (mid : Int) := by omega
              have x4 : ¬ (mid : Int) < (en : Int) := by omega
              have y4 : decide ((mid : Int) < (en : Int)) = false := decide_eq_false x4
              have x5 : (en : Int) < (b : Int) := by omega
              obtain ⟨w4, rfl⟩ : ∃ W, W = wr := ⟨_, rfl⟩
              have hb4' := hbw
              have H1 : Hid (w4.ownsRow base 2 1 (.slice (some ⟨g, 0, none⟩) n c) n ((L ++ (A.take (s - a) ++ (B.take (mid - s) ++ (A.drop (s - a) ++ (B.drop (mid - s) ++ R))))).flatMap cO)) := by
                show World.ownsRow _ _ _ _ _ _ _
                have h9 := hO.out
                rw [(take_fullO (l := A) (k := s - a) (by rw [HP.out]; omega)).1, (take_fullO (l := A) (k := s - a) (by rw [HP.out]; omega)).2, List.nil_append, ← List.append_assoc (B.take (mid - s)) (B.drop (mid - s)), List.take_append_drop]; exact h9
              have hbs4 := hbw0 hb4'
              go_wp2_with fail
              with_reducible refine (HIH.out L (A.take (s - a)) (B.take (mid - s)) (A.drop (s - a) ++ (B.drop (mid - s) ++ R)) a s mid _ H1.out HL.out (by rw [List.length_take, HP.out]; omega) (by rw [List.length_take, HQ.out]; omega) (by rw [List.length_take, HP.out]; omega) (by rw [List.length_take, HQ.out]; omega) (by rw [List.length_take, List.length_take, HP.out, HQ.out]; omega) (sd_take HSA.out _) (sd_take HSB.out _) (HT.out.sub (fun x => List.mem_of_mem_take) (fun x => List.mem_of_mem_take)) hbs4 (Lib.hid (HBW.out.below hb4'))).mono ?_
              rintro e w5 ⟨rfl, C1, ho5, sC1, pC1, hb5⟩
              have hb5' := hb4'.trans hb5
              have H2 : Hid (w5.ownsRow base 2 1 (.slice (some ⟨g, 0, none⟩) n c) n ((L ++ (C1 ++ (A.drop (s - a) ++ (B.drop (mid - s) ++ R)))).flatMap cO)) := ho5
              clear ho5 hb5
              have lC1 : C1.length = mid - a := by rw [pC1.length_eq, List.length_append, List.length_take, List.length_take, HP.out, HQ.out]; omega
              obtain ⟨w6, rfl⟩ : ∃ W, W = w5 := ⟨_, rfl⟩
              have hb6' := hb5'
              obtain ⟨C2, hC2⟩ : ∃ C, A.drop (s - a) ++ B.drop (mid - s) = C := ⟨_, rfl⟩
              have H4 : Hid (w6.ownsRow base 2 1 (.slice (some ⟨g, 0, none⟩) n c) n (((L ++ C1) ++ (C2 ++ R)).flatMap cO)) := by show World.ownsRow _ _ _ _ _ _ _; rw [← hC2, List.append_assoc, List.append_assoc (A.drop (s - a))]; exact H2.out
              have pC2 : C2.Perm (A.drop (s - a) ++ B.drop (mid - s)) := by rw [hC2]
              have sC2 : Sd (kyO bs) tgO C2 := by rw [← hC2]; rw [(take_fullO (l := A) (k := s - a) (by rw [HP.out]; omega)).2, List.nil_append]; exact sd_drop HSB.out _
              have HJ := Lib.hid (sd_join sC1 sC2 pC1 pC2 HX.out)
              clear sC1 sC2 pC1 pC2
              go_wp2
              all_goals
                refine bodyPost_end (v := .tuple #[]) (by simp [results, Try.results110, go_sem]) rfl ⟨rfl, C1 ++ C2, ?_, HJ.out.1, HJ.out.2, hb6'⟩
                have h9 := H4.out
                rw [show (L ++ C1) ++ (C2 ++ R) = L ++ ((C1 ++ C2) ++ R) by simp] at h9
                show World.ownsRow _ _ _ _ _ _ _
                simpa using h9
            · have x0 : ¬ (s : Int) < (m : Int) := by omega
              have y0 : decide ((s : Int) < (m : Int)) = false := decide_eq_false x0
              have x1 : (m : Int) < (en : Int) := by omega
              have x2 : (a : Int) < (s : Int) := by omega
              have x3 : (s : Int) < (mid : Int) := by omega
              have x4 : ¬ (mid : Int) < (en : Int) := by omega
              have y4 : decide ((mid : Int) < (en : Int)) = false := decide_eq_false x4
              have x5 : ¬ (en : Int) < (b : Int) := by omega
              have y5 : decide ((en : Int) < (b : Int)) = false := decide_eq_false x5
              obtain ⟨w4, rfl⟩ : ∃ W, W = wr := ⟨_, rfl⟩
              have hb4' := hbw
              have H1 : Hid (w4.ownsRow base 2 1 (.slice (some ⟨g, 0, none⟩) n c) n ((L ++ (A.take (s - a) ++ (B.take (mid - s) ++ (A.drop (s - a) ++ (B.drop (mid - s) ++ R))))).flatMap cO)) := by
                show World.ownsRow _ _ _ _ _ _ _
                have h9 := hO.out
                rw [(take_fullO (l := A) (k := s - a) (by rw [HP.out]; omega)).1, (take_fullO (l := A) (k := s - a) (by rw [HP.out]; omega)).2, List.nil_append, ← List.append_assoc (B.take (mid - s)) (B.drop (mid - s)), List.take_append_drop]; exact h9
              have hbs4 := hbw0 hb4'
              go_wp2_with fail
              with_reducible refine (HIH.out L (A.take (s - a)) (B.take (mid - s)) (A.drop (s - a) ++ (B.drop (mid - s) ++ R)) a s mid _ H1.out HL.out (by rw [List.length_take, HP.out]; omega) (by rw [List.length_take, HQ.out]; omega) (by rw [List.length_take, HP.out]; omega) (by rw [List.length_take, HQ.out]; omega) (by rw [List.length_take, List.length_take, HP.out, HQ.out]; omega) (sd_take HSA.out _) (sd_take HSB.out _) (HT.out.sub (fun x => List.mem_of_mem_take) (fun x => List.mem_of_mem_take)) hbs4 (Lib.hid (HBW.out.below hb4'))).mono ?_
              rintro e w5 ⟨rfl, C1, ho5, sC1, pC1, hb5⟩
              have hb5' := hb4'.trans hb5
              have H2 : Hid (w5.ownsRow base 2 1 (.slice (some ⟨g, 0, none⟩) n c) n ((L ++ (C1 ++ (A.drop (s - a) ++ (B.drop (mid - s) ++ R)))).flatMap cO)) := ho5
              clear ho5 hb5
              have lC1 : C1.length = mid - a := by rw [pC1.length_eq, List.length_append, List.length_take, List.length_take, HP.out, HQ.out]; omega
              obtain ⟨w6, rfl⟩ : ∃ W, W = w5 := ⟨_, rfl⟩
              have hb6' := hb5'
              obtain ⟨C2, hC2⟩ : ∃ C, A.drop (s - a) ++ B.drop (mid - s) = C := ⟨_, rfl⟩
              have H4 : Hid (w6.ownsRow base 2 1 (.slice (some ⟨g, 0, none⟩) n c) n (((L ++ C1) ++ (C2 ++ R)).flatMap cO)) := by show World.ownsRow _ _ _ _ _ _ _; rw [← hC2, List.append_assoc, List.append_assoc (A.drop (s - a))]; exact H2.out
              have pC2 : C2.Perm (A.drop (s - a) ++ B.drop (mid - s)) := by rw [hC2]
              have sC2 : Sd (kyO bs) tgO C2 := by rw [← hC2]; rw [(take_fullO (l := A) (k := s - a) (by rw [HP.out]; omega)).2, List.nil_append]; exact sd_drop HSB.out _
              have HJ := Lib.hid (sd_join sC1 sC2 pC1 pC2 HX.out)
              clear sC1 sC2 pC1 pC2
              go_wp2
              all_goals
                refine bodyPost_end (v := .tuple #[]) (by simp [results, Try.results110, go_sem]) rfl ⟨rfl, C1 ++ C2, ?_, HJ.out.1, HJ.out.2, hb6'⟩
                have h9 := H4.out
                rw [show (L ++ C1) ++ (C2 ++ R) = L ++ ((C1 ++ C2) ++ R) by simp] at h9
                show World.ownsRow _ _ _ _ _ _ _
                simpa using h9
        · by_cases kA : s < m
          · have x0 : (s : Int) < (m : Int) := by omega
            have x1 : ¬ (m : Int) < (en : Int) := by omega
            have y1 : decide ((m : Int) < (en : Int)) = false := decide_eq_false x1
            have x2 : (a : Int) < (s : Int) := by omega
            have x3 : ¬ (s : Int) < (mid : Int) := by omega
            have y3 : decide ((s : Int) < (mid : Int)) = false := decide_eq_false x3
            have x4 : (mid : Int) < (en : Int) := by omega
            have x5 : (en : Int) < (b : Int) := by omega
            obtain ⟨w4, rfl⟩ : ∃ W, W = wr := ⟨_, rfl⟩
            have hb4' := hbw
            have H1 : Hid (w4.ownsRow base 2 1 (.slice (some ⟨g, 0, none⟩) n c) n ((L ++ (A.take (s - a) ++ (B.take (mid - s) ++ (A.drop (s - a) ++ (B.drop (mid - s) ++ R))))).flatMap cO)) := by
              show World.ownsRow _ _ _ _ _ _ _
              have h9 := hO.out
              rw [show B.take (mid - s) = [] from take_nilO (by omega), List.nil_append, ← List.append_assoc (A.take (s - a)) (A.drop (s - a)), List.take_append_drop, show B.drop (mid - s) = B from by rw [show mid - s = 0 by omega]; rfl]; exact h9
            obtain ⟨w5, rfl⟩ : ∃ W, W = w4 := ⟨_, rfl⟩
            have hb5' := hb4'
            obtain ⟨C1, hC1⟩ : ∃ C, A.take (s - a) ++ B.take (mid - s) = C := ⟨_, rfl⟩
            have H2 : Hid (w5.ownsRow base 2 1 (.slice (some ⟨g, 0, none⟩) n c) n ((L ++ (C1 ++ (A.drop (s - a) ++ (B.drop (mid - s) ++ R)))).flatMap cO)) := by show World.ownsRow _ _ _ _ _ _ _; rw [← hC1, List.append_assoc]; exact H1.out
            have pC1 : C1.Perm (A.take (s - a) ++ B.take (mid - s)) := by rw [hC1]
            have sC1 : Sd (kyO bs) tgO C1 := by rw [← hC1]; rw [show B.take (mid - s) = [] from take_nilO (by omega), List.append_nil]; exact sd_take HSA.out _
            have lC1 : C1.length = mid - a := by rw [pC1.length_eq, List.length_append, List.length_take, List.length_take, HP.out, HQ.out]; omega
            have hbs5 := hbw0 hb5'
            have H3 : Hid (w5.ownsRow base 2 1 (.slice (some ⟨g, 0, none⟩) n c) n (((L ++ C1) ++ (A.drop (s - a) ++ (B.drop (mid - s) ++ R))).flatMap cO)) := by show World.ownsRow _ _ _ _ _ _ _; rw [List.append_assoc]; exact H2.out
            go_wp2_with fail
            with_reducible refine (HIH.out (L ++ C1) (A.drop (s - a)) (B.drop (mid - s)) R mid en b _ H3.out (by rw [List.length_append, HL.out, lC1]; omega) (by rw [List.length_drop, HP.out]; omega) (by rw [List.length_drop, HQ.out]; omega) (by rw [List.length_drop, HP.out]; omega) (by rw [List.length_drop, HQ.out]; omega) (by rw [List.length_drop, List.length_drop, HP.out, HQ.out]; omega) (sd_drop HSA.out _) (sd_drop HSB.out _) (HT.out.sub (fun x => List.mem_of_mem_drop) (fun x => List.mem_of_mem_drop)) hbs5 (Lib.hid (HBW.out.below hb5'))).mono ?_
            rintro e w6 ⟨rfl, C2, ho6, sC2, pC2, hb6⟩
            have hb6' := hb5'.trans hb6
            have H4 : Hid (w6.ownsRow base 2 1 (.slice (some ⟨g, 0, none⟩) n c) n (((L ++ C1) ++ (C2 ++ R)).flatMap cO)) := ho6
            clear ho6 hb6
            have HJ := Lib.hid (sd_join sC1 sC2 pC1 pC2 HX.out)
            clear sC1 sC2 pC1 pC2
            go_wp2
            all_goals
              refine bodyPost_end (v := .tuple #[]) (by simp [results, Try.results110, go_sem]) rfl ⟨rfl, C1 ++ C2, ?_, HJ.out.1, HJ.out.2, hb6'⟩
              have h9 := H4.out
              rw [show (L ++ C1) ++ (C2 ++ R) = L ++ ((C1 ++ C2) ++ R) by simp] at h9
              show World.ownsRow _ _ _ _ _ _ _
              simpa using h9
          · have x0 : ¬ (s : Int) < (m : Int) := by omega
            have y0 : decide ((s : Int) < (m : Int)) = false := decide_eq_false x0
            have x1 : ¬ (m : Int) < (en : Int) := by omega
            have y1 : decide ((m : Int) < (en : Int)) = false := decide_eq_false x1
            have x2 : (a : Int) < (s : Int) := by omega
            have x3 : ¬ (s : Int) < (mid : Int) := by omega
            have y3 : decide ((s : Int) < (mid : Int)) = false := decide_eq_false x3
            have x4 : ¬ (mid : Int) < (en : Int) := by omega
            have y4 : decide ((mid : Int) < (en : Int)) = false := decide_eq_false x4
            have x5 : (en : Int) < (b : Int) := by omega
            obtain ⟨w4, rfl⟩ : ∃ W, W = wr := ⟨_, rfl⟩
            have hb4' := hbw
            have H1 : Hid (w4.ownsRow base 2 1 (.slice (some ⟨g, 0, none⟩) n c) n ((L ++ (A.take (s - a) ++ (B.take (mid - s) ++ (A.drop (s - a) ++ (B.drop (mid - s) ++ R))))).flatMap cO)) := by
              show World.ownsRow _ _ _ _ _ _ _
              have h9 := hO.out
              rw [show B.take (mid - s) = [] from take_nilO (by omega), List.nil_append, ← List.append_assoc (A.take (s - a)) (A.drop (s - a)), List.take_append_drop, show B.drop (mid - s) = B from by rw [show mid - s = 0 by omega]; rfl]; exact h9
            obtain ⟨w5, rfl⟩ : ∃ W, W = w4 := ⟨_, rfl⟩
            have hb5' := hb4'
            obtain ⟨C1, hC1⟩ : ∃ C, A.take (s - a) ++ B.take (mid - s) = C := ⟨_, rfl⟩
            have H2 : Hid (w5.ownsRow base 2 1 (.slice (some ⟨g, 0, none⟩) n c) n ((L ++ (C1 ++ (A.drop (s - a) ++ (B.drop (mid - s) ++ R)))).flatMap cO)) := by show World.ownsRow _ _ _ _ _ _ _; rw [← hC1, List.append_assoc]; exact H1.out
            have pC1 : C1.Perm (A.take (s - a) ++ B.take (mid - s)) := by rw [hC1]
            have sC1 : Sd (kyO bs) tgO C1 := by rw [← hC1]; rw [show B.take (mid - s) = [] from take_nilO (by omega), List.append_nil]; exact sd_take HSA.out _
            have lC1 : C1.length = mid - a := by rw [pC1.length_eq, List.length_append, List.length_take, List.length_take, HP.out, HQ.out]; omega
            obtain ⟨w6, rfl⟩ : ∃ W, W = w5 := ⟨_, rfl⟩
            have hb6' := hb5'
            obtain ⟨C2, hC2⟩ : ∃ C, A.drop (s - a) ++ B.drop (mid - s) = C := ⟨_, rfl⟩
            have H4 : Hid (w6.ownsRow base 2 1 (.slice (some ⟨g, 0, none⟩) n c) n (((L ++ C1) ++ (C2 ++ R)).flatMap cO)) := by show World.ownsRow _ _ _ _ _ _ _; rw [← hC2, List.append_assoc, List.append_assoc (A.drop (s - a))]; exact H2.out
            have pC2 : C2.Perm (A.drop (s - a) ++ B.drop (mid - s)) := by rw [hC2]
            have sC2 : Sd (kyO bs) tgO C2 := by rw [← hC2]; rw [(take_fullO (l := A) (k := s - a) (by rw [HP.out]; omega)).2, List.nil_append]; exact sd_drop HSB.out _
            have HJ := Lib.hid (sd_join sC1 sC2 pC1 pC2 HX.out)
            clear sC1 sC2 pC1 pC2
            go_wp2
            all_goals
              refine bodyPost_end (v := .tuple #[]) (by simp [results, Try.results110, go_sem]) rfl ⟨rfl, C1 ++ C2, ?_, HJ.out.1, HJ.out.2, hb6'⟩
              have h9 := H4.out
              rw [show (L ++ C1) ++ (C2 ++ R) = L ++ ((C1 ++ C2) ++ R) by simp] at h9
              show World.ownsRow _ _ _ _ _ _ _
              simpa using h9
end Go.Proofs.Ytkldejbhhbgefaa
