/- Searches among lists: their codes; WithinCost. -/
import Derived.Test.YtkldejbhhbgefaaIc
import Derived.Test.YtkldejbhhbgefaaNf
import Derived.IntWalk
namespace Go.Proofs.Ytkldejbhhbgefaa
open Go.ChangeShapes Go.WideShapes Go.ChangeAt Go.RowKit
def srB (xs : List T3) (ls : List (List T3)) (k : Nat) : Bool := (featsOk 72 xs && decide (ls.length ≤ 40)) && (ls.take k).all (featsOk 72)
def srE (xs : List T3) (ls : List (List T3)) (band : Int) : Int := if srB xs ls ls.length = true then (if inB 0 72 band = true then 0 else 2) else 1
theorem srB_step {xs : List T3} {ls : List (List T3)} {k : Nat} {x : List T3} (h : ls[k]? = some x) : srB xs ls (k + 1) = (srB xs ls k && featsOk 72 x) := by
  unfold srB; rw [take_succ_of h, List.all_append, List.all_cons, List.all_nil, Bool.and_true, Bool.and_assoc, Bool.and_assoc, Bool.and_assoc]
theorem srB_zero {xs : List T3} {ls : List (List T3)} : srB xs ls 0 = (featsOk 72 xs && decide (ls.length ≤ 40)) := by unfold srB; rw [List.take_zero, List.all_nil, Bool.and_true]
theorem srB_no {xs : List T3} {ls : List (List T3)} : ∀ {k j : Nat}, k ≤ j → j ≤ ls.length → srB xs ls k = false → srB xs ls j = false
  | k, 0, hk, _, h => by rw [show k = 0 by omega] at h; exact h
  | k, j + 1, hk, hj, h => by
    by_cases he : k = j + 1
    · subst he; exact h
    · rw [srB_step (List.getElem?_eq_getElem (show j < ls.length by omega)), srB_no (show k ≤ j by omega) (by omega) h]; rfl
theorem srE_bad {xs : List T3} {ls : List (List T3)} {band : Int} {k : Nat} (hk : k ≤ ls.length) (h : srB xs ls k = false) : srE xs ls band = 1 := by
  unfold srE; rw [srB_no hk (Nat.le_refl _) h]; rfl
theorem srE_off {xs : List T3} {ls : List (List T3)} {band : Int} {n : Nat} (hl : ls.length = n) (h : srB xs ls n = true) (hb : inB 0 72 band = false) : srE xs ls band = 2 := by
  unfold srE; rw [hl, h, hb]; rfl
theorem srE_ok {xs : List T3} {ls : List (List T3)} {band : Int} {n : Nat} (hl : ls.length = n) (h : srB xs ls n = true) (hb : inB 0 72 band = true) : srE xs ls band = 0 := by
  unfold srE; rw [hl, h, hb]; rfl
theorem srE_inv {xs : List T3} {ls : List (List T3)} {band : Int} (h : srE xs ls band = 0) : featsOk 72 xs = true ∧ ls.length ≤ 40 ∧ (∀ (k : Nat) (x : List T3), ls[k]? = some x → featsOk 72 x = true) ∧ (0 ≤ band ∧ band ≤ 72) := by
  unfold srE at h
  cases h1 : srB xs ls ls.length with
  | false => rw [h1] at h; simp at h
  | true =>
    rw [h1, if_pos rfl] at h
    cases h2 : inB 0 72 band with
    | false => rw [h2] at h; exact absurd h (by decide)
    | true =>
      unfold srB at h1
      rw [List.take_length] at h1
      obtain ⟨h3, h4⟩ := Bool.and_eq_true_iff.1 h1
      obtain ⟨h5, h6⟩ := Bool.and_eq_true_iff.1 h3
      exact ⟨h5, of_decide_eq_true h6, fun k x hx => all_at h4 hx, inB_iff.1 h2⟩
theorem tot_in {xs : List (List T3)} (hn : totL xs ≤ 1048576) {k : Nat} {x : List T3} {n' : Nat} (hx : xs[k]? = some x) (hl : x.length = n') : n' ≤ 1048576 := by
  have h := totL_at hx; omega
set_option maxRecDepth 100000 in
set_option maxHeartbeats 4000000 in
theorem searchable_any (A B : Option Addr) (n ca m cb : Nat) (xs : List T3) (ls : List (List T3)) (band : Int) (w : World) (hr : RdL c3 3 w w.heap.size A n ca xs) (hs : NL w w.heap.size B m cb ls) (hn : n ≤ 1048576) (hm : totL ls ≤ 1048576) :
    Calls Try.prog 50 #[.slice A n ca, .slice B m cb, .int .i64 band] w fun e w' => e = .returned (.int .i64 (srE xs ls band)) ∧ Below w.heap.size w w' := by
  have hl := Lib.hid hs.len
  have hcap : m ≤ 9223372036854775807 := Nat.le_trans hs.cap hs.capm
  go_enter Try.func50, Try.ntmps50
  go_wp2_with fail
  with_reducible refine (iValidSeq_any _ _ _ xs _ hr hn).mono ?_
  rintro e w1 ⟨rfl, hbw1⟩
  replace hs := hs.on hbw1
  clear hr
  cases h1 : featsOk 72 xs with
  | false =>
    have F := Lib.hid (srE_bad (xs := xs) (ls := ls) (band := band) (k := 0) (by omega) (by rw [srB_zero, h1]; rfl))
    go_wp2
    go_ret
    exact ⟨ret_int F.out.symm, hbw1⟩
  | true =>
    by_cases h40 : m ≤ 40
    · have H0 : Hid (srB xs ls 0 = true) := by show _ = _; rw [srB_zero, h1, hl.out, decide_eq_true h40]; rfl
      have j1 : ¬ 40 < (m : Int) := by omega
      have hs2 := Lib.hid hs
      clear hs
      go_wp2
      clear h1
      go_loopw [8, 19] (fun _ i wr => ∃ k : Nat, k ≤ m ∧ i = .int .i64 k ∧ Below w1.heap.size w1 wr ∧ Hid (srB xs ls k = true)) (fun _ i _ => m - (intOf i).toNat)
      case atStart => exact ⟨0, by omega, rfl, Below.refl _ _, H0⟩
      case round =>
        obtain ⟨k, hk, rfl, hb, hall⟩ := hrel
        have hbr := below_on hb hbw1
        by_cases hlt : k < m
        · obtain ⟨b, off, A', n', c', x, rfl, hbl, hx, q0, hx3⟩ := (hs2.out.on hb).at_ hlt
          have i1 : (k : Int) < (m : Int) := by omega
          have i2 : (0 : Int) ≤ (k : Int) := by omega
          have hxn := tot_in hm hx.out hx3.len
          cases hp : featsOk 72 x with
          | false =>
            have F := Lib.hid (srE_bad (xs := xs) (ls := ls) (band := band) (k := k + 1) (by rw [hl.out]; omega) (by rw [srB_step hx.out, hp, Bool.and_false]))
            have HX := Lib.hid hx3
            clear hx3
            go_wp2_with fail
            with_reducible refine (iValidSeq_any _ _ _ x _ HX.out hxn).mono ?_
            rintro e w2 ⟨rfl, hbw2⟩
            go_wp2
            go_ret
            exact ⟨ret_int F.out.symm, below_on hbw2 hbr⟩
          | true =>
            have F : Hid (srB xs ls (k + 1) = true) := by show _ = _; rw [srB_step hx.out, hall.out, hp]; rfl
            have HX := Lib.hid hx3
            clear hx3
            go_wp2_with fail
            with_reducible refine (iValidSeq_any _ _ _ x _ HX.out hxn).mono ?_
            rintro e w2 ⟨rfl, hbw2⟩
            have hb2 := below_on hbw2 hb
            go_wp2
            exact ⟨⟨k + 1, by omega, by go_num, hb2, F⟩, by simp [intOf]; omega⟩
        · have hkn : k = m := by omega
          subst hkn
          cases hp : inB 0 72 band with
          | false =>
            have F := Lib.hid (srE_off hl.out hall.out hp)
            go_wp2_with (first | (go_at_call 40; with_reducible refine (within_any _ _ _ _).mono ?_; rintro e w' ⟨rfl, rfl⟩))
            go_ret
            exact ⟨ret_int F.out.symm, hbr⟩
          | true =>
            have F := Lib.hid (srE_ok hl.out hall.out hp)
            go_wp2_with (first | (go_at_call 40; with_reducible refine (within_any _ _ _ _).mono ?_; rintro e w' ⟨rfl, rfl⟩))
            go_ret
            exact ⟨ret_int F.out.symm, hbr⟩
    · have F := Lib.hid (srE_bad (xs := xs) (ls := ls) (band := band) (k := 0) (by omega) (by rw [srB_zero, hl.out, decide_eq_false h40, Bool.and_false]))
      have j1 : 40 < (m : Int) := by omega
      clear hs
      go_wp2
      go_ret
      exact ⟨ret_int F.out.symm, hbw1⟩
set_option maxRecDepth 100000 in
set_option maxHeartbeats 4000000 in
theorem l10Code_any (A B : Option Addr) (n ca m cb : Nat) (xs : List T3) (ls : List (List T3)) (band : Int) (w : World) (hr : RdL c3 3 w w.heap.size A n ca xs) (hs : NL w w.heap.size B m cb ls) (hn : n ≤ 1048576) (hm : totL ls ≤ 1048576) :
    Calls Try.prog 45 #[.slice A n ca, .slice B m cb, .int .i64 band] w fun e w' => e = .returned (.int .i64 (srE xs ls band)) ∧ Below w.heap.size w w' := by
  have hl := Lib.hid hs.len
  have hcap : m ≤ 9223372036854775807 := Nat.le_trans hs.cap hs.capm
  go_enter Try.func45, Try.ntmps45
  go_wp2_with fail
  with_reducible refine (l09Ok_any _ _ _ xs _ hr hn).mono ?_
  rintro e w1 ⟨rfl, hbw1⟩
  replace hs := hs.on hbw1
  clear hr
  have H0 : Hid (srB xs ls 0 = (featsOk 72 xs && decide (m ≤ 40))) := by show _ = _; rw [srB_zero, hl.out]
  have hs2 := Lib.hid hs
  clear hs
  have hst : ∃ f0 : Bool, featsOk 72 xs = f0 := ⟨_, rfl⟩
  obtain ⟨f0, hf0⟩ := hst
  rw [hf0] at H0
  rw [hf0]
  have key : ∀ (g : Bool), Hid (srB xs ls 0 = !g) → True := fun _ _ => trivial
  clear key
  by_cases h40 : m ≤ 40
  · have j1 : ¬ 40 < (m : Int) := by omega
    cases f0
    · have H1 : Hid (srB xs ls 0 = !true) := by show _ = _; rw [H0.out, decide_eq_true h40]; rfl
      go_wp2
      go_loopw [7, 8] (fun q i wr => ∃ (k : Nat) (g : Bool), k ≤ m ∧ i = .int .i64 k ∧ q = .bool g ∧ Below w1.heap.size w1 wr ∧ Hid (srB xs ls k = !g)) (fun _ i _ => m - (intOf i).toNat)
      case atStart => exact ⟨0, true, by omega, rfl, by first | rfl | (simp; omega), Below.refl _ _, H1⟩
      case round =>
        obtain ⟨k, g, hk, rfl, rfl, hb, hall⟩ := hrel
        have hbr := below_on hb hbw1
        by_cases hlt : k < m
        · obtain ⟨b, off, A', n', c', x, rfl, hbl, hx, q0, hx3⟩ := (hs2.out.on hb).at_ hlt
          have i1 : (k : Int) < (m : Int) := by omega
          have i2 : (0 : Int) ≤ (k : Int) := by omega
          have hxn := tot_in hm hx.out hx3.len
          cases g with
          | true =>
            have F : Hid (srB xs ls (k + 1) = !true) := by show _ = _; rw [srB_step hx.out, hall.out]; rfl
            clear hx3
            go_wp2
            exact ⟨⟨k + 1, true, by omega, by go_num, rfl, hb, F⟩, by simp [intOf]; omega⟩
          | false =>
            have F : Hid (srB xs ls (k + 1) = featsOk 72 x) := by show _ = _; rw [srB_step hx.out, hall.out]; rfl
            have HX := Lib.hid hx3
            clear hx3
            go_wp2_with fail
            with_reducible refine (l09Ok_any _ _ _ x _ HX.out hxn).mono ?_
            rintro e w2 ⟨rfl, hbw2⟩
            have hb2 := below_on hbw2 hb
            cases hp : featsOk 72 x with
            | false =>
              rw [hp] at F
              go_wp2
              exact ⟨⟨k + 1, true, by omega, by go_num, rfl, hb2, F⟩, by simp [intOf]; omega⟩
            | true =>
              rw [hp] at F
              go_wp2
              exact ⟨⟨k + 1, false, by omega, by go_num, rfl, hb2, F⟩, by simp [intOf]; omega⟩
        · have hkn : k = m := by omega
          subst hkn
          cases g with
          | true =>
            have F := Lib.hid (srE_bad (xs := xs) (ls := ls) (band := band) (k := k) (by rw [hl.out]; omega) hall.out)
            go_wp2
            go_ret
            exact ⟨ret_int F.out.symm, hbr⟩
          | false =>
            cases hp : inB 0 72 band with
            | false =>
              have F := Lib.hid (srE_off hl.out hall.out hp)
              go_wp2_with (first | (go_at_call 35; with_reducible refine (l00In_any _ _ _ _).mono ?_; rintro e w' ⟨rfl, rfl⟩))
              go_ret
              exact ⟨ret_int F.out.symm, hbr⟩
            | true =>
              have F := Lib.hid (srE_ok hl.out hall.out hp)
              go_wp2_with (first | (go_at_call 35; with_reducible refine (l00In_any _ _ _ _).mono ?_; rintro e w' ⟨rfl, rfl⟩))
              go_ret
              exact ⟨ret_int F.out.symm, hbr⟩
    · have H1 : Hid (srB xs ls 0 = !false) := by show _ = _; rw [H0.out, decide_eq_true h40]; rfl
      go_wp2
      go_loopw [7, 8] (fun q i wr => ∃ (k : Nat) (g : Bool), k ≤ m ∧ i = .int .i64 k ∧ q = .bool g ∧ Below w1.heap.size w1 wr ∧ Hid (srB xs ls k = !g)) (fun _ i _ => m - (intOf i).toNat)
      case atStart => exact ⟨0, false, by omega, rfl, by first | rfl | (simp; omega), Below.refl _ _, H1⟩
      case round =>
        obtain ⟨k, g, hk, rfl, rfl, hb, hall⟩ := hrel
        have hbr := below_on hb hbw1
        by_cases hlt : k < m
        · obtain ⟨b, off, A', n', c', x, rfl, hbl, hx, q0, hx3⟩ := (hs2.out.on hb).at_ hlt
          have i1 : (k : Int) < (m : Int) := by omega
          have i2 : (0 : Int) ≤ (k : Int) := by omega
          have hxn := tot_in hm hx.out hx3.len
          cases g with
          | true =>
            have F : Hid (srB xs ls (k + 1) = !true) := by show _ = _; rw [srB_step hx.out, hall.out]; rfl
            clear hx3
            go_wp2
            exact ⟨⟨k + 1, true, by omega, by go_num, rfl, hb, F⟩, by simp [intOf]; omega⟩
          | false =>
            have F : Hid (srB xs ls (k + 1) = featsOk 72 x) := by show _ = _; rw [srB_step hx.out, hall.out]; rfl
            have HX := Lib.hid hx3
            clear hx3
            go_wp2_with fail
            with_reducible refine (l09Ok_any _ _ _ x _ HX.out hxn).mono ?_
            rintro e w2 ⟨rfl, hbw2⟩
            have hb2 := below_on hbw2 hb
            cases hp : featsOk 72 x with
            | false =>
              rw [hp] at F
              go_wp2
              exact ⟨⟨k + 1, true, by omega, by go_num, rfl, hb2, F⟩, by simp [intOf]; omega⟩
            | true =>
              rw [hp] at F
              go_wp2
              exact ⟨⟨k + 1, false, by omega, by go_num, rfl, hb2, F⟩, by simp [intOf]; omega⟩
        · have hkn : k = m := by omega
          subst hkn
          cases g with
          | true =>
            have F := Lib.hid (srE_bad (xs := xs) (ls := ls) (band := band) (k := k) (by rw [hl.out]; omega) hall.out)
            go_wp2
            go_ret
            exact ⟨ret_int F.out.symm, hbr⟩
          | false =>
            cases hp : inB 0 72 band with
            | false =>
              have F := Lib.hid (srE_off hl.out hall.out hp)
              go_wp2_with (first | (go_at_call 35; with_reducible refine (l00In_any _ _ _ _).mono ?_; rintro e w' ⟨rfl, rfl⟩))
              go_ret
              exact ⟨ret_int F.out.symm, hbr⟩
            | true =>
              have F := Lib.hid (srE_ok hl.out hall.out hp)
              go_wp2_with (first | (go_at_call 35; with_reducible refine (l00In_any _ _ _ _).mono ?_; rintro e w' ⟨rfl, rfl⟩))
              go_ret
              exact ⟨ret_int F.out.symm, hbr⟩
  · have j1 : 40 < (m : Int) := by omega
    cases f0
    · have H1 : Hid (srB xs ls 0 = !true) := by show _ = _; rw [H0.out, decide_eq_false h40]; rfl
      go_wp2
      go_loopw [7, 8] (fun q i wr => ∃ (k : Nat) (g : Bool), k ≤ m ∧ i = .int .i64 k ∧ q = .bool g ∧ Below w1.heap.size w1 wr ∧ Hid (srB xs ls k = !g)) (fun _ i _ => m - (intOf i).toNat)
      case atStart => exact ⟨0, true, by omega, rfl, by first | rfl | (simp; omega), Below.refl _ _, H1⟩
      case round =>
        obtain ⟨k, g, hk, rfl, rfl, hb, hall⟩ := hrel
        have hbr := below_on hb hbw1
        by_cases hlt : k < m
        · obtain ⟨b, off, A', n', c', x, rfl, hbl, hx, q0, hx3⟩ := (hs2.out.on hb).at_ hlt
          have i1 : (k : Int) < (m : Int) := by omega
          have i2 : (0 : Int) ≤ (k : Int) := by omega
          have hxn := tot_in hm hx.out hx3.len
          cases g with
          | true =>
            have F : Hid (srB xs ls (k + 1) = !true) := by show _ = _; rw [srB_step hx.out, hall.out]; rfl
            clear hx3
            go_wp2
            exact ⟨⟨k + 1, true, by omega, by go_num, rfl, hb, F⟩, by simp [intOf]; omega⟩
          | false =>
            have F : Hid (srB xs ls (k + 1) = featsOk 72 x) := by show _ = _; rw [srB_step hx.out, hall.out]; rfl
            have HX := Lib.hid hx3
            clear hx3
            go_wp2_with fail
            with_reducible refine (l09Ok_any _ _ _ x _ HX.out hxn).mono ?_
            rintro e w2 ⟨rfl, hbw2⟩
            have hb2 := below_on hbw2 hb
            cases hp : featsOk 72 x with
            | false =>
              rw [hp] at F
              go_wp2
              exact ⟨⟨k + 1, true, by omega, by go_num, rfl, hb2, F⟩, by simp [intOf]; omega⟩
            | true =>
              rw [hp] at F
              go_wp2
              exact ⟨⟨k + 1, false, by omega, by go_num, rfl, hb2, F⟩, by simp [intOf]; omega⟩
        · have hkn : k = m := by omega
          subst hkn
          cases g with
          | true =>
            have F := Lib.hid (srE_bad (xs := xs) (ls := ls) (band := band) (k := k) (by rw [hl.out]; omega) hall.out)
            go_wp2
            go_ret
            exact ⟨ret_int F.out.symm, hbr⟩
          | false =>
            cases hp : inB 0 72 band with
            | false =>
              have F := Lib.hid (srE_off hl.out hall.out hp)
              go_wp2_with (first | (go_at_call 35; with_reducible refine (l00In_any _ _ _ _).mono ?_; rintro e w' ⟨rfl, rfl⟩))
              go_ret
              exact ⟨ret_int F.out.symm, hbr⟩
            | true =>
              have F := Lib.hid (srE_ok hl.out hall.out hp)
              go_wp2_with (first | (go_at_call 35; with_reducible refine (l00In_any _ _ _ _).mono ?_; rintro e w' ⟨rfl, rfl⟩))
              go_ret
              exact ⟨ret_int F.out.symm, hbr⟩
    · have H1 : Hid (srB xs ls 0 = !true) := by show _ = _; rw [H0.out, decide_eq_false h40]; rfl
      go_wp2
      go_loopw [7, 8] (fun q i wr => ∃ (k : Nat) (g : Bool), k ≤ m ∧ i = .int .i64 k ∧ q = .bool g ∧ Below w1.heap.size w1 wr ∧ Hid (srB xs ls k = !g)) (fun _ i _ => m - (intOf i).toNat)
      case atStart => exact ⟨0, true, by omega, rfl, by first | rfl | (simp; omega), Below.refl _ _, H1⟩
      case round =>
        obtain ⟨k, g, hk, rfl, rfl, hb, hall⟩ := hrel
        have hbr := below_on hb hbw1
        by_cases hlt : k < m
        · obtain ⟨b, off, A', n', c', x, rfl, hbl, hx, q0, hx3⟩ := (hs2.out.on hb).at_ hlt
          have i1 : (k : Int) < (m : Int) := by omega
          have i2 : (0 : Int) ≤ (k : Int) := by omega
          have hxn := tot_in hm hx.out hx3.len
          cases g with
          | true =>
            have F : Hid (srB xs ls (k + 1) = !true) := by show _ = _; rw [srB_step hx.out, hall.out]; rfl
            clear hx3
            go_wp2
            exact ⟨⟨k + 1, true, by omega, by go_num, rfl, hb, F⟩, by simp [intOf]; omega⟩
          | false =>
            have F : Hid (srB xs ls (k + 1) = featsOk 72 x) := by show _ = _; rw [srB_step hx.out, hall.out]; rfl
            have HX := Lib.hid hx3
            clear hx3
            go_wp2_with fail
            with_reducible refine (l09Ok_any _ _ _ x _ HX.out hxn).mono ?_
            rintro e w2 ⟨rfl, hbw2⟩
            have hb2 := below_on hbw2 hb
            cases hp : featsOk 72 x with
            | false =>
              rw [hp] at F
              go_wp2
              exact ⟨⟨k + 1, true, by omega, by go_num, rfl, hb2, F⟩, by simp [intOf]; omega⟩
            | true =>
              rw [hp] at F
              go_wp2
              exact ⟨⟨k + 1, false, by omega, by go_num, rfl, hb2, F⟩, by simp [intOf]; omega⟩
        · have hkn : k = m := by omega
          subst hkn
          cases g with
          | true =>
            have F := Lib.hid (srE_bad (xs := xs) (ls := ls) (band := band) (k := k) (by rw [hl.out]; omega) hall.out)
            go_wp2
            go_ret
            exact ⟨ret_int F.out.symm, hbr⟩
          | false =>
            cases hp : inB 0 72 band with
            | false =>
              have F := Lib.hid (srE_off hl.out hall.out hp)
              go_wp2_with (first | (go_at_call 35; with_reducible refine (l00In_any _ _ _ _).mono ?_; rintro e w' ⟨rfl, rfl⟩))
              go_ret
              exact ⟨ret_int F.out.symm, hbr⟩
            | true =>
              have F := Lib.hid (srE_ok hl.out hall.out hp)
              go_wp2_with (first | (go_at_call 35; with_reducible refine (l00In_any _ _ _ _).mono ?_; rintro e w' ⟨rfl, rfl⟩))
              go_ret
              exact ⟨ret_int F.out.symm, hbr⟩
theorem l10Band_any (n m : Nat) (band : Int) (w : World) (hn : n ≤ 1048576) (hm : m ≤ 1048576) : Calls Try.prog 80 #[.int .i64 n, .int .i64 m, .int .i64 band] w fun e w' => e = .returned (.bool (bandOk n m band)) ∧ Below w.heap.size w w' := by
  have o1 : IntKind.i64.wrap ((n : Int) - (m : Int)) = (n : Int) - (m : Int) := IntWalk.i64_in _ (by omega)
  cases h1 : inB 0 72 band with
  | false =>
    have F := Lib.hid (bandOk_no (n := n) (m := m) h1)
    go_enter Try.func80, Try.ntmps80
    go_wp2_with (first | (go_at_call 35; with_reducible refine (l00In_any _ _ _ _).mono ?_; rintro e w' ⟨rfl, rfl⟩))
    go_ret
    exact ⟨ret_bool F.out.symm, (by repeat (first | exact Below.refl _ _ | assumption | refine Below.drew ?_ | refine below_drewN ?_ _ | refine Below.alloc ?_ (by first | omega | (simp <;> omega)) _ | refine Below.setCell ?_ (by first | omega | (simp <;> omega)) _))⟩
  | true =>
    have H1 := Lib.hid h1
    by_cases h2 : (((n : Int) - m).natAbs : Int) ≤ band
    · have F := Lib.hid (bandOk_yes H1.out h2)
      go_enter Try.func80, Try.ntmps80
      go_wp2_with (first | (go_at_call 35; with_reducible refine (l00In_any _ _ _ _).mono ?_; rintro e w' ⟨rfl, rfl⟩) | (go_at_call 103; with_reducible refine (l09Size_any _ _ (by omega) (by omega)).mono ?_; rintro e w' ⟨rfl, rfl⟩))
      go_ret
      exact ⟨ret_bool (by first | exact F.out.symm | (rw [F.out]; exact decide_eq_true h2)), (by repeat (first | exact Below.refl _ _ | assumption | refine Below.drew ?_ | refine below_drewN ?_ _ | refine Below.alloc ?_ (by first | omega | (simp <;> omega)) _ | refine Below.setCell ?_ (by first | omega | (simp <;> omega)) _))⟩
    · have F := Lib.hid (bandOk_far (n := n) (m := m) (band := band) (by omega))
      go_enter Try.func80, Try.ntmps80
      go_wp2_with (first | (go_at_call 35; with_reducible refine (l00In_any _ _ _ _).mono ?_; rintro e w' ⟨rfl, rfl⟩) | (go_at_call 103; with_reducible refine (l09Size_any _ _ (by omega) (by omega)).mono ?_; rintro e w' ⟨rfl, rfl⟩))
      go_ret
      exact ⟨ret_bool (by first | exact F.out.symm | (rw [F.out]; exact decide_eq_false (by omega))), (by repeat (first | exact Below.refl _ _ | assumption | refine Below.drew ?_ | refine below_drewN ?_ _ | refine Below.alloc ?_ (by first | omega | (simp <;> omega)) _ | refine Below.setCell ?_ (by first | omega | (simp <;> omega)) _))⟩
theorem l10In_any (A B : Option Addr) (n ca m cb : Nat) (band : Int) (w : World) (hn : n ≤ 1048576) (hm : m ≤ 1048576) :
    Calls Try.prog 46 #[.slice A n ca, .slice B m cb, .int .i64 band] w fun e w' => e = .returned (.bool (bandOk n m band)) ∧ Below w.heap.size w w' := by
  go_enter Try.func46, Try.ntmps46
  go_wp2_with fail
  with_reducible refine (l10Band_any n m band _ hn hm).mono ?_
  rintro e w1 ⟨rfl, hbw1⟩
  go_wp2
  go_ret
  exact ⟨rfl, hbw1⟩
def wcAt (xs : List T3) (ls : List (List T3)) (band lim : Int) (k : Nat) : Bool := bandOk xs.length (ls.getD k []).length band && decide (elV xs (ls.getD k []) band ≤ lim)
def wcN (xs : List T3) (ls : List (List T3)) (band lim : Int) : Nat → List Int
  | 0 => []
  | k + 1 => if wcAt xs ls band lim k = true then wcN xs ls band lim k ++ [(k : Int)] else wcN xs ls band lim k
def wcL (xs : List T3) (ls : List (List T3)) (band lim : Int) : List Int := if srE xs ls band = 0 then wcN xs ls band lim ls.length else []
theorem wcN_len (xs : List T3) (ls : List (List T3)) (band lim : Int) : ∀ k, (wcN xs ls band lim k).length ≤ k
  | 0 => by simp [wcN]
  | k + 1 => by
    have h := wcN_len xs ls band lim k
    rw [wcN]; split
    · rw [List.length_append, List.length_singleton]; omega
    · omega
theorem wcN_yes {xs : List T3} {ls : List (List T3)} {band lim : Int} {k : Nat} (h : wcAt xs ls band lim k = true) : wcN xs ls band lim (k + 1) = wcN xs ls band lim k ++ [(k : Int)] := by rw [wcN, if_pos h]
theorem wcN_no {xs : List T3} {ls : List (List T3)} {band lim : Int} {k : Nat} (h : wcAt xs ls band lim k = false) : wcN xs ls band lim (k + 1) = wcN xs ls band lim k := by rw [wcN, if_neg (by rw [h]; decide)]
theorem wcAt_off {xs x : List T3} {ls : List (List T3)} {band lim : Int} {k n m : Nat} (hl : xs.length = n) (hx : ls[k]? = some x) (hm : x.length = m) (h : bandOk n m band = false) : wcAt xs ls band lim k = false := by unfold wcAt; rw [getD_of hx, hl, hm, h]; rfl
theorem wcAt_in {xs x : List T3} {ls : List (List T3)} {band lim : Int} {k n m : Nat} (hl : xs.length = n) (hx : ls[k]? = some x) (hm : x.length = m) (h : bandOk n m band = true) : wcAt xs ls band lim k = decide (elV xs x band ≤ lim) := by unfold wcAt; rw [getD_of hx, hl, hm, h]; rfl
end Go.Proofs.Ytkldejbhhbgefaa
