/- FeatsText: the reference's. -/
import Derived.Test.YtnjifhlabbejoaaDoorFt
namespace Go.Proofs.YtnjifhlabbejoaaDoor
open Go.ChangeShapes Go.WideShapes Go.ChangeAt Go.RowKit
set_option linter.unusedVariables false
set_option linter.unusedSimpArgs false
theorem ftT_size {xs : List T3} (h : ∀ x ∈ xs, ok3 x) : (ftT xs).size ≤ xs.length * 67 := by
  have h1 := jnB_sz (L := 66) (ss := xs.map ftS) (sep := ⟨#[32]⟩) (fun s hs => by
    obtain ⟨y, hy, rfl⟩ := List.mem_map.1 hs
    exact ftS_size (h y hy))
  rw [List.length_map] at h1
  exact h1
theorem empty_app (s : ByteArray) : (⟨#[]⟩ : ByteArray) ++ s = s := by apply ByteArray.ext; simp
set_option maxRecDepth 100000 in
set_option maxHeartbeats 4000000 in
theorem l08Text_any (A : Option Addr) (n c : Nat) (xs : List T3) (w : World) (hr : RdL c3 3 w w.heap.size A n c xs) (hn : n ≤ 1048576) (hx : ∀ x ∈ xs, ok3 x) :
    Calls Tryd.prog 26 #[.slice A n c] w fun e w' => e = .returned (.string (ftT xs)) ∧ Below w.heap.size w w' := by
  have HL := Lib.hid hr.len
  have HR := Lib.hid hr
  clear hr
  go_enter Tryd.func26, Tryd.ntmps26
  go_wp2_with fail
  go_loopw [3, 4] (fun q i wr => ∃ (k : Nat) (S : ByteArray), k ≤ n ∧ i = .int .i64 k ∧ q = .string S ∧ Hid (ftT (xs.take k) = S) ∧ S.size ≤ k * 67 ∧ Below w.heap.size w wr) (fun _ i _ => n - (intOf i).toNat)
  case atStart => exact ⟨0, ⟨#[]⟩, by omega, rfl, rfl, rfl, by decide, Below.refl _ _⟩
  case round =>
    obtain ⟨k, S, hk, rfl, rfl, hS, hsz, hb⟩ := hrel
    have hbs := hb.size
    by_cases hlt : k < n
    · obtain ⟨b, off, x, y, d, rfl, hbl, hxx, q0, q1, q2⟩ := (HR.out.on hb).at3 hlt
      obtain ⟨hxa, hxb, hxc⟩ : I64 x ∧ I64 y ∧ I64 d := hx _ (List.mem_of_getElem? hxx.out)
      have HF := Lib.hid (ftS_eq (x, y, d))
      have hszx : (ftT (xs.take (k + 1))).size ≤ (k + 1) * 67 := by
        have h1 := ftT_size (xs := xs.take (k + 1)) (fun z hz => hx z (List.mem_of_mem_take hz))
        rw [List.length_take] at h1
        exact Nat.le_trans h1 (Nat.mul_le_mul_right _ (by omega))
      obtain ⟨DX, hDX⟩ : ∃ S, decS x = S := ⟨_, rfl⟩
      obtain ⟨DY, hDY⟩ : ∃ S, decS y = S := ⟨_, rfl⟩
      obtain ⟨DD, hDD⟩ : ∃ S, decS d = S := ⟨_, rfl⟩
      have z1 : DX.size ≤ 21 := hDX ▸ decS_size hxa
      have z2 : DY.size ≤ 21 := hDY ▸ decS_size hxb
      have z3 : DD.size ≤ 21 := hDD ▸ decS_size hxc
      have HDX := Lib.hid hDX
      have HDY := Lib.hid hDY
      have HDD := Lib.hid hDD
      have hF2 : Hid (ftS (x, y, d) = DX ++ ⟨#[44]⟩ ++ DY ++ ⟨#[44]⟩ ++ DD) := by show _ = _; rw [HF.out]; simp only [hDX, hDY, hDD]
      have i1 : (k : Int) < (n : Int) := by omega
      have i2 : (0 : Int) ≤ (k : Int) := by omega
      clear hDX hDY hDD HF
      rcases Nat.eq_zero_or_pos k with hk0 | hk0
      · have hS0 : S = ⟨#[]⟩ := by rw [← hS.out, hk0]; rfl
        have HN : Hid (ftT (xs.take (k + 1)) = DX ++ ⟨#[44]⟩ ++ DY ++ ⟨#[44]⟩ ++ DD) := by show _ = _; rw [hk0, ftT_one (by rw [← hk0]; exact hxx.out), hF2.out]
        have HN1 : Hid (ftT (xs.take (k + 1)) = ⟨#[]⟩ ++ (DX ++ ⟨#[44]⟩ ++ DY ++ ⟨#[44]⟩ ++ DD)) := by show _ = _; rw [empty_app]; exact HN.out
        have k0 : ¬ (0 : Int) < (k : Int) := by omega
        have y1 : ¬ 9223372036854775807 < DX.size + 1 := by omega
        have y2 : ¬ 9223372036854775807 < DX.size + 1 + DY.size := by omega
        have y3 : ¬ 9223372036854775807 < DX.size + 1 + DY.size + 1 := by omega
        have y4 : ¬ 9223372036854775807 < DX.size + 1 + DY.size + 1 + DD.size := by omega
        have k0d : decide ((0 : Int) < (k : Int)) = false := decide_eq_false k0
        have HSZ := Lib.hid hszx
        have HB := Lib.hid hb
        subst hS0
        clear hxx hS hsz hszx hk0
        go_wp2_with fail
        go_region_held3 (fun w' => (∀ b o, b < wr.heap.size → w'.cell? ⟨b, o, none⟩ = wr.cell? ⟨b, o, none⟩) ∧ Below wr.heap.size wr w') (first | exact sk (Below.refl _ _).drew | (go_split_ands; first | exact sk ‹_› | exact sk (below_app ‹_› hbw3 (Below.size ‹_›)))) (first | (go_at_call 46; first | (with_reducible refine (l01Dec_any x _ hxa).mono ?_; rintro e w3 ⟨rfl, hbw3⟩; rw [HDX.out]) | (with_reducible refine (l01Dec_any y _ hxb).mono ?_; rintro e w3 ⟨rfl, hbw3⟩; rw [HDY.out]) | (with_reducible refine (l01Dec_any d _ hxc).mono ?_; rintro e w3 ⟨rfl, hbw3⟩; rw [HDD.out])))
        all_goals
          go_split_ands
          have hb5 : Below wr.heap.size wr w3 := ‹Below wr.heap.size wr w3›
          have HB5 := Lib.hid (below_app HB.out hb5 hbs)
          clear hb5
          go_wp2
          exact ⟨⟨k + 1, _, by omega, by go_num, rfl, HN1.out, by rw [← HN1.out]; exact HSZ.out, HB5.out⟩, by simp [intOf]; omega⟩
      · have HN1 : Hid (ftT (xs.take (k + 1)) = S ++ ⟨#[32]⟩ ++ (DX ++ ⟨#[44]⟩ ++ DY ++ ⟨#[44]⟩ ++ DD)) := by show _ = _; rw [ftT_step hk0 hxx.out, hS.out, hF2.out]
        have k0 : (0 : Int) < (k : Int) := by omega
        have hSz : S.size ≤ 1000000000 := by omega
        have y1 : ¬ 9223372036854775807 < DX.size + 1 := by omega
        have y2 : ¬ 9223372036854775807 < DX.size + 1 + DY.size := by omega
        have y3 : ¬ 9223372036854775807 < DX.size + 1 + DY.size + 1 := by omega
        have y4 : ¬ 9223372036854775807 < DX.size + 1 + DY.size + 1 + DD.size := by omega
        have y5 : ¬ 9223372036854775807 < S.size + 1 + (DX.size + 1 + DY.size + 1 + DD.size) := by omega
        have y6 : ¬ 9223372036854775807 < S.size + 1 := by omega
        have HSZ := Lib.hid hszx
        have HB := Lib.hid hb
        clear hxx hS hsz hszx hk0
        go_wp2_with fail
        go_region_held3 (fun w' => (∀ b o, b < wr.heap.size → w'.cell? ⟨b, o, none⟩ = wr.cell? ⟨b, o, none⟩) ∧ Below wr.heap.size wr w') (first | exact sk (Below.refl _ _).drew | (go_split_ands; first | exact sk ‹_› | exact sk (below_app ‹_› hbw3 (Below.size ‹_›)))) (first | (go_at_call 46; first | (with_reducible refine (l01Dec_any x _ hxa).mono ?_; rintro e w3 ⟨rfl, hbw3⟩; rw [HDX.out]) | (with_reducible refine (l01Dec_any y _ hxb).mono ?_; rintro e w3 ⟨rfl, hbw3⟩; rw [HDY.out]) | (with_reducible refine (l01Dec_any d _ hxc).mono ?_; rintro e w3 ⟨rfl, hbw3⟩; rw [HDD.out])))
        all_goals
          go_split_ands
          have hb5 : Below wr.heap.size wr w3 := ‹Below wr.heap.size wr w3›
          have HB5 := Lib.hid (below_app HB.out hb5 hbs)
          clear hb5
          go_wp2
          exact ⟨⟨k + 1, _, by omega, by go_num, rfl, HN1.out, by rw [← HN1.out]; exact HSZ.out, HB5.out⟩, by simp [intOf]; omega⟩
    · have hkn : k = n := by omega
      subst hkn
      have HS : Hid (ftT xs = S) := by show _ = _; rw [← hS.out, List.take_of_length_le (by rw [HL.out]; exact Nat.le_refl _)]
      have HB := Lib.hid hb
      clear hb hS
      go_wp2
      go_ret
      rw [HS.out]
      exact ⟨rfl, HB.out⟩
set_option maxHeartbeats 4000000 in
theorem sFeatsText_any (A : Option Addr) (n c : Nat) (xs : List T3) (w : World) (hr : RdL c3 3 w w.heap.size A n c xs) (hn : n ≤ 1048576) :
    Calls Tryd.prog 12 #[.slice A n c] w fun e w' => e = .returned (.string (ftR xs)) ∧ Below w.heap.size w w' := by
  cases h0 : featsOk 384 xs with
  | false =>
    have F : Hid (ftR xs = ⟨#[]⟩) := by show _ = _; unfold ftR; rw [h0]; rfl
    have H0 := Lib.hid h0
    clear h0
    go_enter Tryd.func12, Tryd.ntmps12
    go_wp2_with fail
    with_reducible refine (l08Ok_any _ _ _ xs _ hr hn).mono ?_
    rintro e w1 ⟨rfl, hbw1⟩
    rw [H0.out]
    clear hr
    go_wp2
    go_ret
    rw [F.out]
    exact ⟨rfl, hbw1⟩
  | true =>
    have F : Hid (ftR xs = ftT xs) := by show _ = _; unfold ftR; rw [h0]; rfl
    have H0 := Lib.hid h0
    have hok := featsOk_ok3 h0
    clear h0
    go_enter Tryd.func12, Tryd.ntmps12
    go_wp2_with fail
    with_reducible refine (l08Ok_any _ _ _ xs _ hr hn).mono ?_
    rintro e w1 ⟨rfl, hbw1⟩
    rw [H0.out]
    replace hr := hr.on hbw1
    go_wp2_with fail
    with_reducible refine (l08Text_any _ _ _ xs _ hr hn hok).mono ?_
    rintro e w2 ⟨rfl, hb2⟩
    have HB := Lib.hid (below_on hb2 hbw1)
    clear hr hb2 hbw1
    go_wp2
    go_ret
    rw [F.out]
    exact ⟨rfl, HB.out⟩
end Go.Proofs.YtnjifhlabbejoaaDoor
