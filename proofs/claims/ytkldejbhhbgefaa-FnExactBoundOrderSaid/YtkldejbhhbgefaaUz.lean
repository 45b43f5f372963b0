/- slices.SortStableFunc over matches: whole. -/
import Derived.Test.YtkldejbhhbgefaaTz
namespace Go.Proofs.Ytkldejbhhbgefaa
open Go.ChangeShapes Go.WideShapes Go.ChangeAt Go.RowKit
set_option linter.unusedVariables false
set_option linter.unusedSimpArgs false
theorem insertion0_any (A : Option Addr) (c : Nat) (w : World) : Calls Try.prog 125 #[.slice A 0 c, .int .i64 0, .int .i64 0, .func (.func 96) #[] #[]] w fun e w' => e = .returned (.tuple #[]) ∧ w = w' := by
  go_enter Try.func125, Try.ntmps125
  go_wp2
  refine wp_loop_once ?_
  go_wp2
  exact bodyPost_end (v := .tuple #[]) (by simp [results, Try.results125, go_sem]) rfl ⟨rfl, rfl⟩
theorem stable0_any (A : Option Addr) (c : Nat) (w : World) : Calls Try.prog 116 #[.slice A 0 c, .int .i64 0, .func (.func 96) #[] #[]] w fun e w' => e = .returned (.tuple #[]) ∧ w = w' := by
  go_enter Try.func116, Try.ntmps116
  go_wp2_with fail
  refine wp_loop_once ?_
  go_wp2_with (first | (go_at_call 125; with_reducible refine (insertion0_any _ _ _).mono ?_; rintro e w' ⟨rfl, rfl⟩))
  refine wp_loop_once ?_
  go_wp2
  exact bodyPost_end (v := .tuple #[]) (by simp [results, Try.results116, go_sem]) rfl ⟨rfl, rfl⟩
set_option maxRecDepth 100000 in
set_option maxHeartbeats 8000000 in
theorem stable_any (g n c base : Nat) (xs : List T2) (w : World) (ho : w.ownsRow base 92 2 (.slice (some ⟨g, 0, none⟩) n c) n ((xs).flatMap c2)) (tg : xs.Pairwise fun x y => tM x < tM y) (hn : n ≤ 40) (hbs : base ≤ w.heap.size) :
    Calls Try.prog 116 #[.slice (some ⟨g, 0, none⟩) n c, .int .i64 (n : Int), .func (.func 96) #[] #[]] w (fun e w' => e = .returned (.tuple #[]) ∧ ∃ C, Hid (w'.ownsRow base 92 2 (.slice (some ⟨g, 0, none⟩) n c) n ((C).flatMap c2)) ∧ Sd kM tM C ∧ C.Perm xs ∧ Below base w w') := by
  have hlen : xs.length = n := by
    have := ho.1; rw [flat_len c2_len] at this; omega
  have hbw0 := fun {wr : World} (h : Below base w wr) => hbw0' hbs h
  have HLN := Lib.hid hlen
  have HT := Lib.hid tg
  have HTK : Hid (∀ k l : Nat, ((xs.drop k).take l).Pairwise fun x y => tM x < tM y) := fun k l => List.Pairwise.sublist (List.take_sublist _ _) (List.Pairwise.sublist (List.drop_sublist _ _) HT.out)
  have HTT : Hid (∀ C D : List T2, C.Perm (xs.take 20) → D.Perm (xs.drop 20) → Tg tM C D) := by
    intro C D pC pD x hx y hy
    have h1 : (xs.take 20 ++ xs.drop 20).Pairwise fun x y => tM x < tM y := by rw [List.take_append_drop]; exact HT.out
    exact (List.pairwise_append.1 h1).2.2 x (pC.mem_iff.1 hx) y (pD.mem_iff.1 hy)
  have HI : Hid (∃ C D, w.ownsRow base 92 2 (.slice (some ⟨g, 0, none⟩) n c) n ((C ++ D).flatMap c2) ∧ Sd kM tM C ∧ C.Perm (xs.take 0) ∧ D = xs.drop 0) := ⟨[], xs, by simpa using ho, List.Pairwise.nil, by simp, rfl⟩
  clear ho tg hlen
  by_cases h20 : n < 20
  · go_enter Try.func116, Try.ntmps116
    have i1 : ¬ (20 : Int) ≤ (n : Int) := by omega
    have i1d : decide ((20 : Int) ≤ (n : Int)) = false := decide_eq_false i1
    have i2 : ¬ (20 : Int) < (n : Int) := by omega
    have i2d : decide ((20 : Int) < (n : Int)) = false := decide_eq_false i2
    obtain ⟨C0, D0, hO, _, pC0, hD0⟩ := HI.out
    have hC0 : C0 = [] := by simpa using pC0
    rw [hC0, hD0, List.drop_zero, List.nil_append] at hO
    have HX : Hid (w.ownsRow base 92 2 (.slice (some ⟨g, 0, none⟩) n c) n ((([] : List T2) ++ (xs ++ [])).flatMap c2)) := by show World.ownsRow _ _ _ _ _ _ _; simpa using hO
    clear hO pC0 hC0 hD0 HI
    go_wp2_with fail
    refine wp_loop_once ?_
    go_wp2_with fail
    have IC := insertionSort_any g n c base 0 n [] xs [] w HX.out rfl (by rw [HLN.out]; omega) HT.out (by omega) hbs
    rw [show ((0 : Nat) : Int) = 0 from rfl] at IC
    with_reducible refine IC.mono ?_
    rintro e w2 ⟨rfl, C, ho2, sC, pC, hb2⟩
    have O2 : Hid (w2.ownsRow base 92 2 (.slice (some ⟨g, 0, none⟩) n c) n ((C).flatMap c2)) := by show World.ownsRow _ _ _ _ _ _ _; simpa using ho2.out
    clear ho2
    go_wp2_with fail
    refine wp_loop_once ?_
    go_wp2
    exact bodyPost_end (v := .tuple #[]) (by simp [results, Try.results116, go_sem]) rfl ⟨rfl, C, O2.out, sC, pC, hb2⟩
  · go_enter Try.func116, Try.ntmps116
    go_wp2_with fail
    go_loopw [7, 8] (fun i j wr => ∃ t : Nat, i = .int .i64 (t : Int) ∧ j = .int .i64 ((t + 20 : Nat) : Int) ∧ (t = 0 ∨ t = 20 ∨ t = 40) ∧ t ≤ n ∧ Below base w wr ∧ Hid (∃ C1 C2 D, wr.ownsRow base 92 2 (.slice (some ⟨g, 0, none⟩) n c) n ((C1 ++ (C2 ++ D)).flatMap c2) ∧ Sd kM tM C1 ∧ Sd kM tM C2 ∧ C1.Perm (xs.take (min t 20)) ∧ C2.Perm ((xs.drop 20).take (t - 20)) ∧ D = xs.drop t)) (fun _ j _ => 100 - (intOf j).toNat)
    case atStart =>
      obtain ⟨C0, D0, hO, _, pC0, hD0⟩ := HI.out
      have hC0 : C0 = [] := by simpa using pC0
      exact ⟨0, rfl, rfl, .inl rfl, by omega, Below.refl _ _, [], [], D0, by subst hC0; simpa using hO, List.Pairwise.nil, List.Pairwise.nil, by simp, by simp, hD0⟩
    case round =>
      clear HI
      obtain ⟨t, rfl, rfl, ht, htn, hbw, hI⟩ := hrel
      have hbs2 := hbw0 hbw
      obtain ⟨C1, C2, D, hO, s1, s2, p1, p2, hD⟩ := hI.out
      have HO := Lib.hid hO
      clear hI hO
      by_cases hle : t + 20 ≤ n
      · have i1 : ((t + 20 : Nat) : Int) ≤ (n : Int) := by omega
        have i1' : (t : Int) + 20 ≤ (n : Int) := by omega
        have l1 : C1.length = min t 20 := by rw [p1.length_eq, List.length_take, HLN.out]; omega
        have l2 : C2.length = t - 20 := by rw [p2.length_eq, List.length_take, List.length_drop, HLN.out]; omega
        have HX : Hid (wr.ownsRow base 92 2 (.slice (some ⟨g, 0, none⟩) n c) n (((C1 ++ C2) ++ ((xs.drop t).take 20 ++ xs.drop (t + 20))).flatMap c2)) := by
          show World.ownsRow _ _ _ _ _ _ _
          rw [List.append_assoc, show (xs.drop t).take 20 ++ xs.drop (t + 20) = xs.drop t from by rw [← List.drop_drop]; exact List.take_append_drop _ _, ← hD]
          exact HO.out
        have o1 : IntKind.i64.wrap (((t + 20 : Nat) : Int) + 20) = ((t + 20 + 20 : Nat) : Int) := by rw [IntWalk.i64_in _ (by omega)]; omega
        obtain ⟨t2, ht2⟩ : ∃ t2, t + 20 = t2 := ⟨_, rfl⟩
        rw [ht2] at i1 o1
        rw [ht2]
        have i1'' : (t : Int) + 20 = (t2 : Int) := by omega
        go_wp2_with fail
        with_reducible refine (insertionSort_any g n c base t t2 (C1 ++ C2) ((xs.drop t).take 20) (xs.drop (t + 20)) wr HX.out (by rw [List.length_append, l1, l2]; omega) (by rw [List.length_take, List.length_drop, HLN.out]; omega) (HTK.out t 20) (by omega) hbs2).mono ?_
        rintro e w2 ⟨rfl, C, ho2, sC, pC, hb2⟩
        have hb3 := hbw.trans hb2
        have HO2 : Hid (w2.ownsRow base 92 2 (.slice (some ⟨g, 0, none⟩) n c) n (((C1 ++ C2) ++ (C ++ xs.drop (t + 20))).flatMap c2)) := ho2
        clear ho2 hb2
        go_wp2
        rcases ht with rfl | rfl | rfl
        · have e1 : C1 = [] := List.eq_nil_of_length_eq_zero (by rw [l1]; rfl)
          have e2 : C2 = [] := List.eq_nil_of_length_eq_zero (by rw [l2])
          exact ⟨⟨20, by rw [← ht2], by go_num, .inr (.inl rfl), by omega, hb3, C, [], xs.drop 20, by have h9 := HO2.out; rw [e1, e2] at h9; simpa using h9, sC, List.Pairwise.nil, by simpa using pC, by simp, rfl⟩, by simp [intOf]; omega⟩
        · have e2 : C2 = [] := List.eq_nil_of_length_eq_zero (by rw [l2])
          exact ⟨⟨40, by rw [← ht2], by go_num, .inr (.inr rfl), by omega, hb3, C1, C, xs.drop 40, by have h9 := HO2.out; rw [e2] at h9; simpa using h9, s1, sC, p1, pC, rfl⟩, by simp [intOf]; omega⟩
        · omega
      · have i1 : ¬ ((t + 20 : Nat) : Int) ≤ (n : Int) := by omega
        have i1d : decide (((t + 20 : Nat) : Int) ≤ (n : Int)) = false := decide_eq_false i1
        have i1' : ¬ (t : Int) + 20 ≤ (n : Int) := by omega
        have i1d' : decide ((t : Int) + 20 ≤ (n : Int)) = false := decide_eq_false i1'
        have l1 : C1.length = min t 20 := by rw [p1.length_eq, List.length_take, HLN.out]; omega
        have l2 : C2.length = t - 20 := by rw [p2.length_eq, List.length_take, List.length_drop, HLN.out]; omega
        have HX : Hid (wr.ownsRow base 92 2 (.slice (some ⟨g, 0, none⟩) n c) n (((C1 ++ C2) ++ (xs.drop t ++ [])).flatMap c2)) := by show World.ownsRow _ _ _ _ _ _ _; rw [List.append_assoc, List.append_nil, ← hD]; exact HO.out
        have HTD : Hid ((xs.drop t).Pairwise fun x y => tM x < tM y) := List.Pairwise.sublist (List.drop_sublist _ _) HT.out
        go_wp2_with fail
        with_reducible refine (insertionSort_any g n c base t n (C1 ++ C2) (xs.drop t) [] wr HX.out (by rw [List.length_append, l1, l2]; omega) (by rw [List.length_drop, HLN.out]; omega) HTD.out (by omega) hbs2).mono ?_
        rintro e w2 ⟨rfl, C, ho2, sC, pC, hb2⟩
        have hb3 := hbw.trans hb2
        have HE : Hid (∃ E1 E2, w2.ownsRow base 92 2 (.slice (some ⟨g, 0, none⟩) n c) n ((E1 ++ E2).flatMap c2) ∧ Sd kM tM E1 ∧ Sd kM tM E2 ∧ E1.Perm (xs.take 20) ∧ E2.Perm (xs.drop 20)) := by
          have h9 := ho2.out
          rcases ht with rfl | rfl | rfl
          · omega
          · have e2 : C2 = [] := List.eq_nil_of_length_eq_zero (by rw [l2])
            rw [e2] at h9
            exact ⟨C1, C, by simpa using h9, s1, sC, p1, pC⟩
          · have e3 : C = [] := List.eq_nil_of_length_eq_zero (by rw [pC.length_eq, List.length_drop, HLN.out]; omega)
            rw [e3] at h9
            refine ⟨C1, C2, by simpa using h9, s1, s2, p1, ?_⟩
            rw [List.take_of_length_le (by rw [List.length_drop, HLN.out]; omega)] at p2
            exact p2
        clear ho2 hb2 HO HX i1 i1d i1' i1d' l1 l2 s1 s2 p1 p2 sC pC
        go_wp2_with fail
        go_loopw [6] (fun i wr => ∃ s : Nat, i = .int .i64 (s : Int) ∧ Below base w wr ∧ ((s = 20 ∧ Hid (∃ E1 E2, wr.ownsRow base 92 2 (.slice (some ⟨g, 0, none⟩) n c) n ((E1 ++ E2).flatMap c2) ∧ Sd kM tM E1 ∧ Sd kM tM E2 ∧ E1.Perm (xs.take 20) ∧ E2.Perm (xs.drop 20))) ∨ (s = 40 ∧ Hid (∃ C, wr.ownsRow base 92 2 (.slice (some ⟨g, 0, none⟩) n c) n ((C).flatMap c2) ∧ Sd kM tM C ∧ C.Perm xs)))) (fun i _ => 100 - (intOf i).toNat)
        case atStart => exact ⟨20, rfl, hb3, .inl ⟨rfl, HE.out⟩⟩
        case round =>
          clear HE hb3 hbw hbs2
          obtain ⟨s, rfl, hbw, hS⟩ := hrel
          have hbs2 := hbw0 hbw
          rcases hS with ⟨rfl, hE⟩ | ⟨rfl, hF⟩
          rw [show ((20 : Nat) : Int) = 20 from rfl]
          rotate_left 1
          rw [show ((40 : Nat) : Int) = 40 from rfl]
          rotate_left 1
          · by_cases hn20 : n = 20
            · have i1 : ¬ (20 : Int) < (n : Int) := by omega
              have i1d : decide ((20 : Int) < (n : Int)) = false := decide_eq_false i1
              have i1n : ¬ ((20 : Nat) : Int) < (n : Int) := by omega
              obtain ⟨E1, E2, hO, s1, s2, p1, p2⟩ := hE.out
              have e2 : E2 = [] := List.eq_nil_of_length_eq_zero (by rw [p2.length_eq, List.length_drop, HLN.out]; omega)
              have HO := Lib.hid hO
              rw [List.take_of_length_le (by rw [HLN.out]; omega)] at p1
              clear hO hE hn20
              go_wp2
              exact bodyPost_end (v := .tuple #[]) (by simp [results, Try.results116, go_sem]) rfl ⟨rfl, E1, by show World.ownsRow _ _ _ _ _ _ _; have h9 := HO.out; rw [e2, List.append_nil] at h9; exact h9, s1, p1, hbw⟩
            · have i1 : (20 : Int) < (n : Int) := by omega
              have i1n : ((20 : Nat) : Int) < (n : Int) := by omega
              obtain ⟨wo, rfl⟩ : ∃ W, W = wr := ⟨_, rfl⟩
              go_wp2_with fail
              go_loopw [7, 8] (fun i j wr => ∃ z : Nat, i = .int .i64 (z : Int) ∧ j = .int .i64 ((z + 40 : Nat) : Int) ∧ Below base w wr ∧ ((z = 0 ∧ Hid (∃ E1 E2, wr.ownsRow base 92 2 (.slice (some ⟨g, 0, none⟩) n c) n ((E1 ++ E2).flatMap c2) ∧ Sd kM tM E1 ∧ Sd kM tM E2 ∧ E1.Perm (xs.take 20) ∧ E2.Perm (xs.drop 20))) ∨ (z = 40 ∧ n = 40 ∧ Hid (∃ C, wr.ownsRow base 92 2 (.slice (some ⟨g, 0, none⟩) n c) n ((C).flatMap c2) ∧ Sd kM tM C ∧ C.Perm xs)))) (fun _ j _ => 100 - (intOf j).toNat)
              case atStart => exact ⟨0, rfl, rfl, hbw, .inl ⟨rfl, hE.out⟩⟩
              case round =>
                clear hE hbw hbs2
                obtain ⟨z, rfl, rfl, hbw, hS⟩ := hrel
                have hbs2 := hbw0 hbw
                rcases hS with ⟨rfl, hE⟩ | ⟨rfl, h40, hF⟩
                rw [show ((0 : Nat) : Int) = 0 from rfl, show ((0 + 40 : Nat) : Int) = 40 from rfl]
                rotate_left 1
                rw [show ((40 : Nat) : Int) = 40 from rfl, show ((40 + 40 : Nat) : Int) = 80 from rfl]
                rotate_left 1
                · obtain ⟨E1, E2, hO, s1, s2, p1, p2⟩ := hE.out
                  have HX : Hid (wr.ownsRow base 92 2 (.slice (some ⟨g, 0, none⟩) n c) n ((([] : List T2) ++ (E1 ++ (E2 ++ []))).flatMap c2)) := by show World.ownsRow _ _ _ _ _ _ _; simpa using hO
                  have l1 : E1.length = 20 := by rw [p1.length_eq, List.length_take, HLN.out]; omega
                  have l2 : E2.length = n - 20 := by rw [p2.length_eq, List.length_drop, HLN.out]
                  have hTg := HTT.out E1 E2 p1 p2
                  have hpe : (E1 ++ E2).Perm xs := by have h9 := p1.append p2; rwa [List.take_append_drop] at h9
                  clear hO hE
                  by_cases hn40 : n = 40
                  · have j1 : (40 : Int) ≤ (n : Int) := by omega
                    have H40 := Lib.hid hn40
                    clear hn40
                    go_wp2_with fail
                    have IC := symMerge_any g n c base (by omega) 1000 [] E1 E2 [] 0 20 40 wr HX.out rfl (by rw [l1]) (by have := H40.out; rw [l2]; omega) (by omega) (by have := H40.out; omega) (by have := H40.out; omega) s1 s2 hTg hbs2
                    rw [show ((0 : Nat) : Int) = 0 from rfl, show ((20 : Nat) : Int) = 20 from rfl, show ((40 : Nat) : Int) = 40 from rfl] at IC
                    with_reducible refine IC.mono ?_
                    rintro e w3 ⟨rfl, C, ho3, sC, pC, hb3⟩
                    have hb4 := hbw.trans hb3
                    have HC : Hid (∃ C, w3.ownsRow base 92 2 (.slice (some ⟨g, 0, none⟩) n c) n ((C).flatMap c2) ∧ Sd kM tM C ∧ C.Perm xs) := ⟨C, by simpa using ho3.out, sC, pC.trans hpe⟩
                    clear ho3 hb3
                    go_wp2
                    exact ⟨⟨40, by go_num, by go_num, hb4, .inr ⟨rfl, H40.out, HC.out⟩⟩, by simp [intOf]⟩
                  · have j1 : ¬ (40 : Int) ≤ (n : Int) := by omega
                    have j1d : decide ((40 : Int) ≤ (n : Int)) = false := decide_eq_false j1
                    go_wp2_with fail
                    have IC := symMerge_any g n c base (by omega) 1000 [] E1 E2 [] 0 20 n wr HX.out rfl (by rw [l1]) (by rw [l2]; omega) (by omega) (by omega) (by omega) s1 s2 hTg hbs2
                    rw [show ((0 : Nat) : Int) = 0 from rfl, show ((20 : Nat) : Int) = 20 from rfl] at IC
                    with_reducible refine IC.mono ?_
                    rintro e w3 ⟨rfl, C, ho3, sC, pC, hb3⟩
                    have hb4 := hbw.trans hb3
                    have HC : Hid (∃ C, w3.ownsRow base 92 2 (.slice (some ⟨g, 0, none⟩) n c) n ((C).flatMap c2) ∧ Sd kM tM C ∧ C.Perm xs) := ⟨C, by simpa using ho3.out, sC, pC.trans hpe⟩
                    clear ho3 hb3
                    go_wp2
                    exact ⟨⟨40, by go_num, hb4, .inr ⟨rfl, HC.out⟩⟩, by simp [intOf]⟩
                · have j1 : ¬ (80 : Int) ≤ (n : Int) := by omega
                  have j1d : decide ((80 : Int) ≤ (n : Int)) = false := decide_eq_false j1
                  have j2 : ¬ (60 : Int) < (n : Int) := by omega
                  have j2d : decide ((60 : Int) < (n : Int)) = false := decide_eq_false j2
                  go_wp2
                  exact ⟨⟨40, by go_num, hbw, .inr ⟨rfl, hF.out⟩⟩, by simp [intOf]⟩
          · have i1 : ¬ (40 : Int) < (n : Int) := by omega
            have i1d : decide ((40 : Int) < (n : Int)) = false := decide_eq_false i1
            have i1n : ¬ ((40 : Nat) : Int) < (n : Int) := by omega
            obtain ⟨C, hO, sC, pC⟩ := hF.out
            have HO := Lib.hid hO
            clear hO hF
            go_wp2
            exact bodyPost_end (v := .tuple #[]) (by simp [results, Try.results116, go_sem]) rfl ⟨rfl, C, HO.out, sC, pC, hbw⟩
theorem sortStable_any (A : Option Addr) (n c base : Nat) (xs : List T2) (w : World) (ho : w.ownsRow base 92 2 (.slice A n c) n (xs.flatMap c2)) (hl : xs.length = n) (tg : xs.Pairwise fun x y => tM x < tM y) (hn : n ≤ 40) (hbs : base ≤ w.heap.size) :
    Calls Try.prog 95 #[.slice A n c, .func (.func 96) #[] #[]] w (fun e w' => e = .returned (.tuple #[]) ∧ ∃ C, Hid (w'.ownsRow base 92 2 (.slice A n c) n (C.flatMap c2)) ∧ Sd kM tM C ∧ C.Perm xs ∧ Below base w w') := by
  by_cases h0 : n = 0
  · subst h0
    have hx : xs = [] := List.eq_nil_of_length_eq_zero hl
    subst hx
    have HO := Lib.hid ho
    clear ho
    go_enter Try.func95, Try.ntmps95
    go_wp2_with (first | (go_at_call 116; with_reducible refine (stable0_any _ _ _).mono ?_; rintro e w' ⟨rfl, rfl⟩))
    exact bodyPost_end (v := .tuple #[]) (by simp [results, Try.results95, go_sem]) rfl ⟨rfl, [], HO.out, List.Pairwise.nil, List.Perm.refl _, Below.refl _ _⟩
  · obtain ⟨g, rfl, _, _⟩ := own_at ho (by omega)
    have HO := Lib.hid ho
    have HT := Lib.hid tg
    clear ho tg
    go_enter Try.func95, Try.ntmps95
    go_wp2_with fail
    with_reducible refine (stable_any g n c base xs w HO.out HT.out hn hbs).mono ?_
    rintro e w2 ⟨rfl, C, ho2, sC, pC, hb2⟩
    have H2 := Lib.hid ho2.out
    clear ho2
    go_wp2
    exact bodyPost_end (v := .tuple #[]) (by simp [results, Try.results95, go_sem]) rfl ⟨rfl, C, H2.out, sC, pC, hb2⟩
end Go.Proofs.Ytkldejbhhbgefaa
