/- The vote's parts: polls, slices.IndexFunc, cmp.Or, slices.MinFunc over polls. -/
import Derived.Test.YtkldejbhhbgefaaVa
import Derived.Test.YtkldejbhhbgefaaLu
import Derived.BigRegion
import Derived.Deep.RegionHeld3
namespace Go.Proofs.Ytkldejbhhbgefaa
open Go.ChangeShapes Go.WideShapes Go.ChangeAt Go.RowKit
set_option linter.unusedVariables false
set_option linter.unusedSimpArgs false
def cV (p : V3) : List Value := [.string (b8 p.1), .int .i64 p.2.1, .int .i64 p.2.2]
theorem cV_len (p : V3) : (cV p).length = 3 := rfl
theorem oneV (p : V3) : ∀ u ∈ cV p, u.oneCell' = true := by intro u hu; simp [cV] at hu; rcases hu with rfl | rfl | rfl <;> rfl
theorem Try.infoPoll : (Try.prog.info? 106).map (fun i => (i.zero, i.size, i.bytes)) = some (some (.agg #[.string ⟨#[]⟩, .int .i64 0, .int .i64 0]), 3, 32) := by kernel_rfl
theorem Try.underlying103 : Try.prog.underlying 103 = some (.slice 106) := by kernel_rfl
theorem RdL.atV {w : World} {B n c : Nat} {A : Option Addr} {xs : List V3} (h : RdL cV 3 w B A n c xs) {k : Nat} (hk : k < n) :
    ∃ b off s x y, A = some ⟨b, off, none⟩ ∧ b < B ∧ Hid (xs[k]? = some (s, x, y)) ∧ w.cell? ⟨b, off + k * 3, none⟩ = some (.string (b8 s)) ∧ w.cell? ⟨b, off + k * 3 + 1, none⟩ = some (.int .i64 x) ∧ w.cell? ⟨b, off + k * 3 + 2, none⟩ = some (.int .i64 y) := by
  obtain ⟨b, off, x, e, hb, hx, hc⟩ := RdL.at_ (f := cV) cV_len h hk
  exact ⟨b, off, x.1, x.2.1, x.2.2, e, hb, hx, hc 0 _ (by omega) rfl, hc 1 _ (by omega) rfl, hc 2 _ (by omega) rfl⟩
theorem s8_eq {a b : SL8} (h : a = b) : ((b8 a).toList == (b8 b).toList) = true := by rw [h]; simp
theorem s8_ne {a b : SL8} (h : ¬ a = b) : ((b8 a).toList == (b8 b).toList) = false := by rw [b8_list, b8_list]; simpa using h
theorem s8_lt {a b : SL8} (h : a < b) : Op.bytesLess (b8 a).toList (b8 b).toList = true := by rw [b8_list, b8_list]; exact less_yes h
theorem s8_nlt {a b : SL8} (h : ¬ a < b) : Op.bytesLess (b8 a).toList (b8 b).toList = false := by rw [b8_list, b8_list]; exact less_no h
theorem vote1_any (s t : SL8) (a b : Int) (gl : Nat) (w : World) (h : Cel w gl 0 (.string (b8 t))) :
    Calls Try.prog 70 #[.agg #[.string (b8 s), .int .i64 a, .int .i64 b], .pointer (some ⟨gl, 0, none⟩)] w fun e w' => e = .returned (.bool (decide (s = t))) ∧ Below w.heap.size w w' := by
  have h0 := h.cell
  have hl := h.lt
  by_cases hst : s = t
  · have hd : Hid (decide (s = t) = true) := decide_eq_true hst
    have c1 := s8_eq hst
    clear hst
    go_enter Try.func70, Try.ntmps70
    go_wp2
    go_ret
    exact ⟨ret_bool hd.out.symm, (by repeat (first | exact Below.refl _ _ | assumption | refine Below.drew ?_ | refine below_drewN ?_ _ | refine Below.alloc ?_ (by first | omega | (simp <;> omega)) _ | refine Below.setCell ?_ (by first | omega | (simp <;> omega)) _))⟩
  · have hd : Hid (decide (s = t) = false) := decide_eq_false hst
    have c1 := s8_ne hst
    clear hst
    go_enter Try.func70, Try.ntmps70
    go_wp2
    go_ret
    exact ⟨ret_bool hd.out.symm, (by repeat (first | exact Below.refl _ _ | assumption | refine Below.drew ?_ | refine below_drewN ?_ _ | refine Below.alloc ?_ (by first | omega | (simp <;> omega)) _ | refine Below.setCell ?_ (by first | omega | (simp <;> omega)) _))⟩
theorem indexFunc_any (A : Option Addr) (n c gl : Nat) (t : SL8) (ps : List V3) (w : World) (hr : RdL cV 3 w w.heap.size A n c ps) (h : Cel w gl 0 (.string (b8 t))) (hn : n ≤ 1000) :
    Calls Try.prog 69 #[.slice A n c, .func (.func 70) #[] #[.pointer (some ⟨gl, 0, none⟩)]] w fun e w' => Below w.heap.size w w' ∧ ((∃ (i : Nat) (q : V3), ps[i]? = some q ∧ q.1 = t ∧ e = .returned (.int .i64 (i : Int))) ∨ ((∀ q ∈ ps, q.1 ≠ t) ∧ e = .returned (.int .i64 (-1)))) := by
  have HR := Lib.hid hr
  have HL := Lib.hid hr.len
  clear hr
  go_enter Try.func69, Try.ntmps69
  go_wp2_with fail
  go_loopw [8] (fun i wr => ∃ k : Nat, k ≤ n ∧ i = .int .i64 k ∧ Below w.heap.size w wr ∧ Hid (∀ (j : Nat) (q : V3), j < k → ps[j]? = some q → q.1 ≠ t)) (fun i _ => n - (intOf i).toNat)
  case atStart => exact ⟨0, by omega, rfl, Below.refl _ _, fun j q hj => by omega⟩
  case round =>
    obtain ⟨k, hk, rfl, hb, hno⟩ := hrel
    by_cases hlt : k < n
    · obtain ⟨b, off, s, x, y, rfl, hbl, hx, q0, q1, q2⟩ := (HR.out.on hb).atV hlt
      have hC := h.on hb
      have i1 : (k : Int) < (n : Int) := by omega
      have i2 : (0 : Int) ≤ (k : Int) := by omega
      go_wp2_with fail
      with_reducible refine (vote1_any s t x y gl _ hC).mono ?_
      rintro e w2 ⟨rfl, hb2⟩
      have hb3 := below_on hb2 hb
      clear q0 q1 q2 hC
      by_cases hst : s = t
      · rw [decide_eq_true hst]
        go_wp2
        go_ret
        exact ⟨hb3, .inl ⟨k, _, hx.out, hst, rfl⟩⟩
      · rw [decide_eq_false hst]
        have hno2 : Hid (∀ (j : Nat) (q : V3), j < k + 1 → ps[j]? = some q → q.1 ≠ t) := by
          intro j q hj hq
          rcases Nat.lt_or_ge j k with h1 | h1
          · exact hno.out j q h1 hq
          · rw [show j = k by omega, hx.out] at hq; cases hq; exact hst
        clear hst hno
        go_wp2
        exact ⟨⟨k + 1, by omega, by go_num, hb3, hno2.out⟩, by simp [intOf]; omega⟩
    · have hall : Hid (∀ q ∈ ps, q.1 ≠ t) := by
        intro q hq
        obtain ⟨j, hj⟩ := List.getElem?_of_mem hq
        have := (List.getElem?_eq_some_iff.1 hj).1
        exact hno.out j q (by rw [HL.out] at this; omega) hj
      clear hno
      go_wp2
      go_ret
      exact ⟨hb, .inr ⟨hall.out, rfl⟩⟩
def cmpS (a b : SL8) : Int := if a < b then -1 else if b < a then 1 else 0
def orV (a b c : Int) : Int := if a = 0 then (if b = 0 then c else b) else a
theorem isNaNS_any (s : ByteArray) (w : World) : Calls Try.prog 100 #[.string s] w fun e w' => e = .returned (.bool false) ∧ w = w' := by
  go_enter Try.func100, Try.ntmps100
  go_wp2
  go_ret
  exact ⟨ret_bool (by simp), rfl⟩
theorem compareS_any (x y : SL8) (w : World) : Calls Try.prog 74 #[.string (b8 x), .string (b8 y)] w fun e w' => e = .returned (.int .i64 (cmpS x y)) ∧ w = w' := by
  rcases s8_tri x y with h1 | h1 | h1
  · have HV : Hid (cmpS x y = -1) := by show _ = _; unfold cmpS; rw [if_pos h1]
    have c1 := s8_lt h1
    clear h1
    go_enter Try.func74, Try.ntmps74
    go_wp2_with (first | (go_at_call 100; with_reducible refine (isNaNS_any _ _).mono ?_; rintro e w' ⟨rfl, rfl⟩))
    go_ret
    exact ⟨ret_int HV.out.symm, rfl⟩
  · have h2 : ¬ x < y := by rw [h1]; exact s8_irrefl _
    have h3 : ¬ y < x := by rw [h1]; exact s8_irrefl _
    have HV : Hid (cmpS x y = 0) := by show _ = _; unfold cmpS; rw [if_neg h2, if_neg h3]
    have c1 := s8_nlt h2
    have c2 := s8_eq h1
    clear h1 h2 h3
    go_enter Try.func74, Try.ntmps74
    go_wp2_with (first | (go_at_call 100; with_reducible refine (isNaNS_any _ _).mono ?_; rintro e w' ⟨rfl, rfl⟩))
    go_ret
    exact ⟨ret_int HV.out.symm, rfl⟩
  · have h2 : ¬ x < y := fun h => s8_irrefl _ (s8_trans h h1)
    have HV : Hid (cmpS x y = 1) := by show _ = _; unfold cmpS; rw [if_neg h2, if_pos h1]
    have c1 := s8_nlt h2
    have c2 := s8_ne (show ¬ x = y from fun e => s8_irrefl _ (e ▸ h1))
    clear h1 h2
    go_enter Try.func74, Try.ntmps74
    go_wp2_with (first | (go_at_call 100; with_reducible refine (isNaNS_any _ _).mono ?_; rintro e w' ⟨rfl, rfl⟩))
    go_ret
    exact ⟨ret_int HV.out.symm, rfl⟩
theorem or_any (g : Nat) (a b c : Int) (t : TypeId) (w : World) (h : Blk w g t #[.int .i64 a, .int .i64 b, .int .i64 c]) :
    Calls Try.prog 73 #[.slice (some ⟨g, 0, none⟩) 3 3] w fun e w' => e = .returned (.int .i64 (orV a b c)) ∧ w = w' := by
  have hl := h.lt
  have q0 := h.cell 0
  have q1 := h.cell 1
  have q2 := h.cell 2
  simp only [List.getElem?_toArray, List.getElem?_cons_succ, List.getElem?_cons_zero] at q0 q1 q2
  clear h
  go_enter Try.func73, Try.ntmps73
  go_wp2
  obtain ⟨w0, rfl⟩ : ∃ W, W = w := ⟨_, rfl⟩
  go_loopw [8] (fun i wr => wr = w0 ∧ ((i = .int .i64 0) ∨ (i = .int .i64 1 ∧ a = 0) ∨ (i = .int .i64 2 ∧ a = 0 ∧ b = 0) ∨ (i = .int .i64 3 ∧ a = 0 ∧ b = 0 ∧ c = 0))) (fun i _ => 3 - (intOf i).toNat)
  case atStart => exact ⟨rfl, .inl rfl⟩
  case round =>
    obtain ⟨rfl, hI⟩ := hrel
    rcases hI with rfl | ⟨rfl, rfl⟩ | ⟨rfl, rfl, rfl⟩ | ⟨rfl, rfl, rfl, rfl⟩
    · by_cases hv : a = 0
      · subst hv
        go_wp2
        exact ⟨⟨by trivial, .inr (.inl ⟨by go_num, by trivial⟩)⟩, by simp [intOf]⟩
      · have HV : Hid (orV a b c = a) := by show _ = _; unfold orV; rw [if_neg hv]
        have hvb : (a == 0) = false := by simpa using hv
        go_wp2
        go_ret
        exact ⟨ret_int HV.out.symm, rfl⟩
    · by_cases hv : b = 0
      · subst hv
        go_wp2
        exact ⟨⟨by trivial, .inr (.inr (.inl ⟨by go_num, by trivial, by trivial⟩))⟩, by simp [intOf]⟩
      · have HV : Hid (orV 0 b c = b) := by show _ = _; unfold orV; rw [if_pos rfl, if_neg hv]
        have hvb : (b == 0) = false := by simpa using hv
        go_wp2
        go_ret
        exact ⟨ret_int HV.out.symm, rfl⟩
    · by_cases hv : c = 0
      · subst hv
        go_wp2
        exact ⟨⟨by trivial, .inr (.inr (.inr ⟨by go_num, by trivial, by trivial, by trivial⟩))⟩, by simp [intOf]⟩
      · have HV : Hid (orV 0 0 c = c) := by show _ = _; unfold orV; rw [if_pos rfl, if_pos rfl]
        have hvb : (c == 0) = false := by simpa using hv
        go_wp2
        go_ret
        exact ⟨ret_int HV.out.symm, rfl⟩
    · go_wp2
      go_ret
      exact ⟨rfl, rfl⟩
end Go.Proofs.Ytkldejbhhbgefaa
