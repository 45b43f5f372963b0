/- slices.Delete of one template, on a row of the call's own. -/
import Derived.Test.YtkldejbhhbgefaaCp
import Derived.Lib.SliceRun
import Derived.Deep.RegionLaw
namespace Go.Proofs.Ytkldejbhhbgefaa
open Go.ChangeShapes Go.WideShapes Go.ChangeAt Go.RowKit
set_option linter.unusedVariables false
set_option linter.unusedSimpArgs false
/-- A list with some of its elements written over. -/
def setAll (xs : List Value) : Nat → List Value → List Value
  | _, [] => xs
  | o, v :: r => setAll (xs.set o v) (o + 1) r
theorem own_setCells {base e s n c g : Nat} : ∀ (vs : List Value) (o : Nat) (w : World) (xs : List Value), w.ownsRow base e s (.slice (some ⟨g, 0, none⟩) n c) n xs → (w.setCells g o vs).ownsRow base e s (.slice (some ⟨g, 0, none⟩) n c) n (setAll xs o vs)
  | [], _, _, _, h => h
  | v :: r, o, w, xs, h => own_setCells r (o + 1) _ _ ((h.stored o v).1)
theorem grown_setCells {a : World} {g : Nat} : ∀ (vs : List Value) (o : Nat) (w : World), a.grownBy w (some g) → a.grownBy (w.setCells g o vs) (some g)
  | [], _, _, h => h
  | v :: r, o, w, h => grown_setCells r (o + 1) _ (only_setCell h (.inl rfl) v)
theorem setAll_mid : ∀ (vs l r : List Value), vs.length ≤ r.length → setAll (l ++ r) l.length vs = l ++ vs ++ r.drop vs.length
  | [], l, r, _ => by simp [setAll]
  | v :: vs, l, r, h => by
    match r, h with
    | x :: r, h =>
      rw [setAll, over1 rfl (by simp)]
      have h9 := setAll_mid vs (l ++ [v]) r (by simpa using h)
      simp only [List.length_append, List.length_singleton, List.drop_succ_cons, List.drop_zero] at h9 ⊢
      rw [h9]
      simp
theorem flat_dropT : ∀ (hs : List HT) (k : Nat), (hs.flatMap cT).drop (k * 2) = (hs.drop k).flatMap cT
  | [], k => by simp
  | h :: hs, 0 => by simp
  | h :: hs, k + 1 => by
    have h9 := flat_dropT hs k
    rw [List.drop_succ_cons, ← h9]
    simp only [List.flatMap_cons, cT]
    rw [show (k + 1) * 2 = k * 2 + 2 by omega]
    rfl
theorem del_flat (hs : List HT) (i n : Nat) (hl : hs.length = n) (hi : i < n) (a b : Value) : ((setAll (setAll (hs.flatMap cT) (i * 2) ((hs.drop (i + 1)).flatMap cT)) ((n - 1) * 2) [a, b]).take ((n - 1) * 2)) = (hs.eraseIdx i).flatMap cT := by
  have e1 : hs.flatMap cT = (hs.take i).flatMap cT ++ (hs.drop i).flatMap cT := by rw [← List.flatMap_append, List.take_append_drop]
  have l1 : ((hs.take i).flatMap cT).length = i * 2 := by rw [flat_len cT_len, List.length_take]; congr 1; omega
  have l2 : ((hs.drop (i + 1)).flatMap cT).length = (n - (i + 1)) * 2 := by rw [flat_len cT_len, List.length_drop, hl]
  have l3 : ((hs.drop i).flatMap cT).length = (n - i) * 2 := by rw [flat_len cT_len, List.length_drop, hl]
  have h1 := setAll_mid ((hs.drop (i + 1)).flatMap cT) ((hs.take i).flatMap cT) ((hs.drop i).flatMap cT) (by rw [l2, l3]; omega)
  rw [← e1, l1] at h1
  rw [h1]
  have l4 : ((hs.take i).flatMap cT ++ (hs.drop (i + 1)).flatMap cT).length = (n - 1) * 2 := by rw [List.length_append, l1, l2]; omega
  have h2 := setAll_mid [a, b] ((hs.take i).flatMap cT ++ (hs.drop (i + 1)).flatMap cT) (((hs.drop i).flatMap cT).drop ((hs.drop (i + 1)).flatMap cT).length) (by rw [List.length_drop, l2, l3]; simp; omega)
  rw [l4] at h2
  rw [h2, List.append_assoc, List.take_append_of_le_length (by rw [l4]; exact Nat.le_refl _), List.take_of_length_le (by rw [l4]; exact Nat.le_refl _), List.eraseIdx_eq_take_drop_succ, List.flatMap_append]
theorem own_less {w : World} {base e s n n' c g : Nat} {xs : List Value} (h : w.ownsRow base e s (.slice (some ⟨g, 0, none⟩) n c) n xs) (hn : n' ≤ n) : w.ownsRow base e s (.slice (some ⟨g, 0, none⟩) n' c) n' (xs.take (n' * s)) := by
  rcases h.2 with ⟨hv, _⟩ | ⟨g', cap, cur, hv, hg, hh, h1, h2, h3, h4⟩
  · cases hv
  · cases hv
    have h5 : n' * s ≤ n * s := Nat.mul_le_mul_right s hn
    refine ⟨by rw [List.length_take, h.1]; omega, .inr ⟨g, c, cur, rfl, hg, hh, by omega, h2, h3, ?_⟩⟩
    rw [← h4, List.take_take, Nat.min_eq_left h5]
theorem run_clear_one {P : Program} (w : World) (t e ty : TypeId) (z a b : Value) (ht : P.underlying t = some (.slice e)) (hv : ∀ w, (zeroValue e).run P w = .ok z w) (hz : z.cells = #[a, b]) (h1 : a.oneCell' = true) (h2 : b.oneCell' = true) (g o c : Nat)
    (hc : ∀ j, j < 2 → (w.cell? ⟨g, o + j, none⟩).isSome = true) (hf : ∀ j, j < 2 → w.frozen? ⟨g, o + j, none⟩ = false) :
    (Builtin.clear_ #[t] ty #[.slice (some ⟨g, o, none⟩) 1 c]).run P w = .ok (.tuple #[]) (w.setCells g o [a, b]) := by
  have hzc : (Builtin.zeroCells z.cells 1).toList = [a, b] := by
    rw [hz]
    simp [Builtin.zeroCells]
    rfl
  have hst := run_storeCells_cells (P := P) g o [a, b] 0 w (by simpa using hc) (by simpa using hf) (by intro v hv'; simp at hv'; rcases hv' with rfl | rfl <;> assumption)
  simp only [Nat.add_zero] at hst
  simp [Builtin.clear_, run_underlying ht, hv, hzc, hst]
set_option maxRecDepth 100000 in
set_option maxHeartbeats 4000000 in
theorem deleteT_any (g n c base i : Nat) (hs : List HT) (w : World) (h : w.ownsRow base 67 2 (.slice (some ⟨g, 0, none⟩) n c) n (hs.flatMap cT)) (hl : hs.length = n) (hi : i < n) (hn : n ≤ 1048576) :
    Calls Try.prog 76 #[.slice (some ⟨g, 0, none⟩) n c, .int .i64 i, .int .i64 ((i : Int) + 1)] w fun e w' => e = .returned (.slice (some ⟨g, 0, none⟩) (n - 1) c) ∧
      w'.ownsRow base 67 2 (.slice (some ⟨g, 0, none⟩) (n - 1) c) (n - 1) ((hs.eraseIdx i).flatMap cT) ∧ w.grownBy w' (some g) := by
  obtain ⟨i0, ii, hz0, hz1, hz2⟩ := info_parts Try.infoTempl
  have HL := Lib.hid hl
  have H := Lib.hid h
  obtain ⟨_, _, _, hc0, hc1⟩ := RdL.of_own (f := cT) hl h
  have hcap : n ≤ c := by rcases h.2 with ⟨hv, _⟩ | ⟨g', cap, cur, hv, hg, hh, h1, h2, h3, h4⟩ <;> cases hv; exact h1
  have hcm : c ≤ 9223372036854775807 := by rcases h.2 with ⟨hv, _⟩ | ⟨g', cap, cur, hv, hg, hh, h1, h2, h3, h4⟩ <;> cases hv; simpa [maxLen] using h2
  clear hl h hc0 hc1
  by_cases hlast : i + 1 = n
  · obtain rfl : n = i + 1 := by omega
    by_cases hc : c = i + 1
    · subst hc
      have j3 : (0 : Int) ≤ (i : Int) := by omega
      have j8 : (i : Int) ≤ (i : Int) + 1 := by omega
      have j4 : ((i : Int) == (i : Int) + 1) = false := by simp; omega
      have j5 : ((i : Int) + 1).toNat = i + 1 := by omega
      have j7 : i ≤ (i + 1) := by omega
      have j9 : i + 1 ≤ (i + 1) := by omega
      have j10 : (0 : Int) ≤ (i : Int) + 1 := by omega
      go_enter Try.func76, Try.ntmps76
      go_wp2_with fail
      go_region_law (refine step_append_room (by rfl) (.tmp 22) (.tmp 25) 29 (by rfl) 67 i0 2 Try.underlying29 ii hz1 g 0 i (i + 1) (by rfl) ⟨g, 0, none⟩ 0 (0) [] (by rfl) rfl (fun j u hu => by simp at hu) (fun u hu => by cases hu) (by omega) (fun j hj => absurd hj (Nat.not_lt_zero _)) ?_)
      clear j4 j5 j7 j10
      have HO : w.drew.ownsRow base 67 2 (.slice (some ⟨g, 0, none⟩) (i + 1) (i + 1)) (i + 1) (hs.flatMap cT) := H.out
      have HG : w.grownBy w.drew (some g) := ⟨rfl, rfl, rfl, Nat.le_refl _, fun _ _ _ => rfl⟩
      simp only [Nat.zero_add, Nat.add_zero, World.setCells]
      generalize w.drew = w2 at *
      obtain ⟨⟨v0, e0⟩, f0⟩ := own_cell HO (j := i * 2) (by omega)
      obtain ⟨⟨v1, e1⟩, f1⟩ := own_cell HO (j := i * 2 + 1) (by omega)
      have hcl : ∀ ty, (Builtin.clear_ #[29] ty #[.slice (some ⟨g, i * 2, none⟩) 1 1]).run Try.prog w2 = .ok (.tuple #[]) (w2.setCells g (i * 2) [.string ⟨#[]⟩, .slice none 0 0]) := fun ty => by
        exact run_clear_one w2 _ 67 ty (.agg #[.string ⟨#[]⟩, .slice none 0 0]) _ _ Try.underlying29 (fun _ => by kernel_rfl) rfl rfl rfl g (i * 2) _ (fun j hj => by match j, hj with | 0, _ => rw [Nat.add_zero, e0]; rfl | 1, _ => rw [e1]; rfl) (fun j hj => by match j, hj with | 0, _ => exact f0 | 1, _ => exact f1)
      have HO2 := Lib.hid (own_less (own_setCells [.string ⟨#[]⟩, .slice none 0 0] (i * 2) w2 _ HO) (show i ≤ i + 1 by omega))
      have HG2 := Lib.hid (grown_setCells [.string ⟨#[]⟩, .slice none 0 0] (i * 2) w2 HG)
      clear e0 e1 f0 f1 HO HG
      have k1 : (i : Int) ≤ (i : Int) + 1 := by omega
      have k4 : ¬ (i + 1) = i := by omega
      go_wp2
      go_ret
      refine ⟨by simp, ?_, HG2.out⟩
      have h9 := del_flat hs i (i + 1) HL.out (by omega) (.string ⟨#[]⟩) (.slice none 0 0)
      have hd : hs.drop (i + 1) = [] := List.drop_eq_nil_of_le (by rw [HL.out]; exact Nat.le_refl _)
      rw [hd] at h9
      simp only [List.flatMap_nil, setAll, Nat.add_sub_cancel] at h9 ⊢
      rw [← h9]
      exact HO2.out
    · have j6 : ¬ c = i + 1 := hc
      have j3 : (0 : Int) ≤ (i : Int) := by omega
      have j4 : ((i : Int) == (i : Int) + 1) = false := by simp; omega
      have j5 : ((i : Int) + 1).toNat = i + 1 := by omega
      have j7 : i ≤ c := by omega
      have j9 : i + 1 ≤ c := by omega
      have j10 : (0 : Int) ≤ (i : Int) + 1 := by omega
      go_enter Try.func76, Try.ntmps76
      go_wp2_with fail
      go_region_law (refine step_append_room (by rfl) (.tmp 22) (.tmp 25) 29 (by rfl) 67 i0 2 Try.underlying29 ii hz1 g 0 i c (by rfl) ⟨g, (i + 1) * 2, none⟩ 0 (c - (i + 1)) [] (by rfl) rfl (fun j u hu => by simp at hu) (fun u hu => by cases hu) (by omega) (fun j hj => absurd hj (Nat.not_lt_zero _)) ?_)
      clear j4 j5 j7 j10
      have HO : w.drew.ownsRow base 67 2 (.slice (some ⟨g, 0, none⟩) (i + 1) c) (i + 1) (hs.flatMap cT) := H.out
      have HG : w.grownBy w.drew (some g) := ⟨rfl, rfl, rfl, Nat.le_refl _, fun _ _ _ => rfl⟩
      simp only [Nat.zero_add, Nat.add_zero, World.setCells]
      generalize w.drew = w2 at *
      obtain ⟨⟨v0, e0⟩, f0⟩ := own_cell HO (j := i * 2) (by omega)
      obtain ⟨⟨v1, e1⟩, f1⟩ := own_cell HO (j := i * 2 + 1) (by omega)
      have hcl : ∀ ty, (Builtin.clear_ #[29] ty #[.slice (some ⟨g, i * 2, none⟩) 1 (c - i)]).run Try.prog w2 = .ok (.tuple #[]) (w2.setCells g (i * 2) [.string ⟨#[]⟩, .slice none 0 0]) := fun ty => by
        exact run_clear_one w2 _ 67 ty (.agg #[.string ⟨#[]⟩, .slice none 0 0]) _ _ Try.underlying29 (fun _ => by kernel_rfl) rfl rfl rfl g (i * 2) _ (fun j hj => by match j, hj with | 0, _ => rw [Nat.add_zero, e0]; rfl | 1, _ => rw [e1]; rfl) (fun j hj => by match j, hj with | 0, _ => exact f0 | 1, _ => exact f1)
      have HO2 := Lib.hid (own_less (own_setCells [.string ⟨#[]⟩, .slice none 0 0] (i * 2) w2 _ HO) (show i ≤ i + 1 by omega))
      have HG2 := Lib.hid (grown_setCells [.string ⟨#[]⟩, .slice none 0 0] (i * 2) w2 HG)
      clear e0 e1 f0 f1 HO HG
      have k1 : (i : Int) ≤ (i : Int) + 1 := by omega
      have k4 : ¬ c = i := by omega
      go_wp2
      go_ret
      refine ⟨by simp, ?_, HG2.out⟩
      have h9 := del_flat hs i (i + 1) HL.out (by omega) (.string ⟨#[]⟩) (.slice none 0 0)
      have hd : hs.drop (i + 1) = [] := List.drop_eq_nil_of_le (by rw [HL.out]; exact Nat.le_refl _)
      rw [hd] at h9
      simp only [List.flatMap_nil, setAll, Nat.add_sub_cancel] at h9 ⊢
      rw [← h9]
      exact HO2.out
  · have j1 : (i : Int) + 1 ≤ (n : Int) := by omega
    have j2 : (n : Int) ≤ (c : Int) := by omega
    have j3 : (0 : Int) ≤ (i : Int) := by omega
    have j4 : ((i : Int) == (i : Int) + 1) = false := by simp; omega
    have j5 : ((i : Int) + 1).toNat = i + 1 := by omega
    have j6 : ¬ c = i + 1 := by omega
    have j7 : i ≤ c := by omega
    have j8 : i + 1 ≤ n := by omega
    have j9 : n ≤ c := by omega
    have j10 : (0 : Int) ≤ (i : Int) + 1 := by omega
    go_enter Try.func76, Try.ntmps76
    go_wp2_with fail
    have N1 : Hid (((hs.drop (i + 1)).flatMap cT).length = (n - (i + 1)) * 2) := by unfold Hid; rw [flat_len cT_len, List.length_drop, HL.out]
    have N2 : Hid (∀ j u, ((hs.drop (i + 1)).flatMap cT)[j]? = some u → w.drew.cell? ((⟨g, (i + 1) * 2, none⟩ : Addr).add j) = some u) := by
      intro j u hu
      have hj : j < (n - (i + 1)) * 2 := by have h9 := (List.getElem?_eq_some_iff.1 hu).1; rw [N1.out] at h9; exact h9
      rw [show (⟨g, (i + 1) * 2, none⟩ : Addr).add j = ⟨g, (i + 1) * 2 + j, none⟩ by unfold Addr.add; split <;> simp_all]
      have h8 := H.out.cellAt ((i + 1) * 2 + j) (by omega)
      rw [← flat_dropT, List.getElem?_drop] at hu
      exact h8.trans hu
    have N3 : Hid (∀ j, j < ((hs.drop (i + 1)).flatMap cT).length → (w.drew.cell? ⟨g, 0 + i * 2 + j, none⟩).isSome = true ∧ w.drew.frozen? ⟨g, 0 + i * 2 + j, none⟩ = false) := by
      intro j hj
      rw [N1.out] at hj
      obtain ⟨⟨v, hv⟩, hf⟩ := own_cell H.out (j := i * 2 + j) (by omega)
      rw [Nat.zero_add]
      exact ⟨by show (w.cell? _).isSome = true; rw [hv]; rfl, hf⟩
    have N4 : Hid (∀ u ∈ (hs.drop (i + 1)).flatMap cT, u.oneCell' = true) := by
      intro u hu
      obtain ⟨y, _, hy2⟩ := List.mem_flatMap.1 hu
      exact oneT y u hy2
    go_region_law (refine step_append_room (by rfl) (.tmp 22) (.tmp 25) 29 (by rfl) 67 i0 2 Try.underlying29 ii hz1 g 0 i c (by rfl) ⟨g, (i + 1) * 2, none⟩ (n - (i + 1)) (c - (i + 1)) ((hs.drop (i + 1)).flatMap cT) (by rfl) N1.out N2.out N4.out (by omega) N3.out ?_)
    clear N1 N2 N3 N4 j1 j4 j5 j6 j7 j8 j10
    have e1 : i + (n - (i + 1)) = n - 1 := by omega
    rw [e1]
    clear e1
    have HO := own_setCells ((hs.drop (i + 1)).flatMap cT) (i * 2) w.drew _ H.out
    have HG : w.grownBy (w.drew.setCells g (i * 2) ((hs.drop (i + 1)).flatMap cT)) (some g) := grown_setCells _ _ _ ⟨rfl, rfl, rfl, Nat.le_refl _, fun _ _ _ => rfl⟩
    generalize w.drew.setCells g (i * 2) ((hs.drop (i + 1)).flatMap cT) = w2 at *
    obtain ⟨⟨v0, e0⟩, f0⟩ := own_cell HO (j := (n - 1) * 2) (by omega)
    obtain ⟨⟨v1, e1⟩, f1⟩ := own_cell HO (j := (n - 1) * 2 + 1) (by omega)
    have hcl : ∀ ty, (Builtin.clear_ #[29] ty #[.slice (some ⟨g, (n - 1) * 2, none⟩) (n - (n - 1)) (c - (n - 1))]).run Try.prog w2 = .ok (.tuple #[]) (w2.setCells g ((n - 1) * 2) [.string ⟨#[]⟩, .slice none 0 0]) := fun ty => by
      rw [show n - (n - 1) = 1 by omega]
      exact run_clear_one w2 _ 67 ty (.agg #[.string ⟨#[]⟩, .slice none 0 0]) _ _ Try.underlying29 (fun _ => by kernel_rfl) rfl rfl rfl g ((n - 1) * 2) _ (fun j hj => by match j, hj with | 0, _ => rw [Nat.add_zero, e0]; rfl | 1, _ => rw [e1]; rfl) (fun j hj => by match j, hj with | 0, _ => exact f0 | 1, _ => exact f1)
    have HO2 := Lib.hid (own_less (own_setCells [.string ⟨#[]⟩, .slice none 0 0] ((n - 1) * 2) w2 _ HO) (show n - 1 ≤ n by omega))
    have HG2 := Lib.hid (grown_setCells [.string ⟨#[]⟩, .slice none 0 0] ((n - 1) * 2) w2 HG)
    clear e0 e1 f0 f1 HO HG
    have k1 : ((n - 1 : Nat) : Int) ≤ (n : Int) := by omega
    have k2 : (0 : Int) ≤ ((n - 1 : Nat) : Int) := by omega
    have k3 : n - 1 ≤ n := by omega
    have k4 : ¬ c = n - 1 := by omega
    go_wp2
    go_ret
    refine ⟨rfl, ?_, HG2.out⟩
    rw [← del_flat hs i n HL.out hi (.string ⟨#[]⟩) (.slice none 0 0)]
    exact HO2.out
end Go.Proofs.Ytkldejbhhbgefaa
