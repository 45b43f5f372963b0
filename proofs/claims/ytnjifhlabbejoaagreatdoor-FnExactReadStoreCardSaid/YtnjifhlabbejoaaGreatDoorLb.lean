/- Contracts of IsLabel. -/
import Derived.Test.YtnjifhlabbejoaaGreatDoorSc
import Derived.Test.YtnjifhlabbejoaaGreatDoorSh
namespace Go.Proofs.YtnjifhlabbejoaaGreatDoor
open Go.ChangeShapes Go.WideShapes Go.ChangeAt Go.RowKit
def labI (c : Int) : Bool := [43, 45, 42, 47, 61, 40, 41, 46, 44].contains c || (inB 97 122 c || inB 48 57 c)
def labS (s : ByteArray) : Bool := match s with | ⟨⟨[c]⟩⟩ => labI c.toNat | _ => false
theorem labS_no {s : ByteArray} (h : s.size ≠ 1) : labS s = false := by
  unfold labS
  split
  · rename_i c; exact absurd rfl h
  · rfl
theorem labS_one (c : UInt8) : labS ⟨#[c]⟩ = labI c.toNat := rfl
theorem one_byte {s : ByteArray} (h : s.size = 1) : ∃ c, s = ⟨#[c]⟩ := by
  obtain ⟨⟨l⟩⟩ := s
  match l, h with
  | [c], _ => exact ⟨c, rfl⟩
theorem lab_mem (c : UInt8) : decide (0 ≤ Lib.indexByte [48, 49, 50, 51, 52, 53, 54, 55, 56, 57, 43, 45, 42, 47, 61, 40, 41, 46, 44] c) = ([43, 45, 42, 47, 61, 40, 41, 46, 44].contains (c.toNat : Int) || inB 48 57 c.toNat) := by
  have h : ∀ n, n < 256 → decide (0 ≤ Lib.indexByte [48, 49, 50, 51, 52, 53, 54, 55, 56, 57, 43, 45, 42, 47, 61, 40, 41, 46, 44] (UInt8.ofNat n)) = ([43, 45, 42, 47, 61, 40, 41, 46, 44].contains (((UInt8.ofNat n).toNat : Int)) || inB 48 57 (UInt8.ofNat n).toNat) := by decide +kernel
  have := h c.toNat c.toNat_lt
  rwa [UInt8.ofNat_toNat] at this
theorem l01Small_any (c : Int) (w : World) : Calls Tryz.prog 98 #[.int .u8 c] w fun e w' => e = .returned (.bool (inB 97 122 c)) ∧ w = w' := by
  go_enter Tryz.func98, Tryz.ntmps98
  go_wp2
  all_goals
    go_ret
    exact ⟨ret_bool (by first | (rw [inB_lo ‹_›]; rfl) | (rw [inB_hi ‹_›]; rfl) | rw [inB_lo ‹_›] | rw [inB_hi ‹_›]), rfl⟩
theorem isLetter_any (c : Int) (w : World) : Calls Tryz.prog 73 #[.int .u8 c] w fun e w' => e = .returned (.bool (inB 97 122 c)) ∧ w = w' := by
  go_enter Tryz.func73, Tryz.ntmps73
  go_wp2
  all_goals
    go_ret
    exact ⟨ret_bool (by first | (rw [inB_lo ‹_›]; rfl) | (rw [inB_hi ‹_›]; rfl) | rw [inB_lo ‹_›] | rw [inB_hi ‹_›]), rfl⟩
set_option maxHeartbeats 1000000 in
theorem l11Label_any (c : Int) (w : World) : Calls Tryz.prog 79 #[.int .u8 c] w fun e w' => e = .returned (.bool (labI c)) ∧ w = w' := by
  by_cases h : [43, 45, 42, 47, 61, 40, 41, 46, 44].contains c = true
  · simp at h
    rcases h with rfl | rfl | rfl | rfl | rfl | rfl | rfl | rfl | rfl
    all_goals
      go_enter Tryz.func79, Tryz.ntmps79
      go_wp2
      go_ret
      exact ⟨ret_bool (by decide), rfl⟩
  · have hh : labI c = (inB 97 122 c || inB 48 57 c) := by unfold labI; simp only [Bool.not_eq_true] at h; rw [h]; rfl
    simp at h
    obtain ⟨a1, a2, a3, a4, a5, a6, a7, a8, a9⟩ := h
    have e1 : (c == 43) = false := by simpa using a1
    have e2 : (c == 45) = false := by simpa using a2
    have e3 : (c == 42) = false := by simpa using a3
    have e4 : (c == 47) = false := by simpa using a4
    have e5 : (c == 61) = false := by simpa using a5
    have e6 : (c == 40) = false := by simpa using a6
    have e7 : (c == 41) = false := by simpa using a7
    have e8 : (c == 46) = false := by simpa using a8
    have e9 : (c == 44) = false := by simpa using a9
    clear a1 a2 a3 a4 a5 a6 a7 a8 a9
    have HH := Lib.hid hh
    clear hh
    cases h1 : inB 97 122 c with
    | true =>
      have H1 := Lib.hid h1
      go_enter Tryz.func79, Tryz.ntmps79
      go_wp2_with (first | (go_at_call 98; with_reducible refine (l01Small_any _ _).mono ?_; rintro e w' ⟨rfl, rfl⟩))
      go_ret
      exact ⟨ret_bool (by rw [HH.out, H1.out]; rfl), rfl⟩
    | false =>
      have H1 := Lib.hid h1
      go_enter Tryz.func79, Tryz.ntmps79
      go_wp2_with (first | (go_at_call 98; with_reducible refine (l01Small_any _ _).mono ?_; rintro e w' ⟨rfl, rfl⟩))
      all_goals
        go_ret
        exact ⟨ret_bool (by rw [HH.out, H1.out, Bool.false_or]; first | (rw [inB_lo ‹_›]; rfl) | (rw [inB_hi ‹_›]; rfl) | rw [inB_lo ‹_›] | rw [inB_hi ‹_›]), rfl⟩
theorem sIsLabel_any (s : ByteArray) (w : World) (hs : s.size ≤ maxLen) : Calls Tryz.prog 61 #[.string s] w fun e w' => e = .returned (.bool (labS s)) ∧ w = w' := by
  unfold maxLen at hs
  by_cases h : s.size = 1
  · obtain ⟨c, rfl⟩ := one_byte h
    clear h hs
    go_enter Tryz.func61, Tryz.ntmps61
    go_wp2_with (first | (go_at_call 79; with_reducible refine (l11Label_any _ _).mono ?_; rintro e w' ⟨rfl, rfl⟩))
    go_ret
    exact ⟨rfl, rfl⟩
  · have h1 : ((s.size : Int) == 1) = false := by simp; omega
    have H := Lib.hid h
    clear h
    go_enter Tryz.func61, Tryz.ntmps61
    go_wp2
    go_ret
    exact ⟨ret_bool (labS_no H.out).symm, rfl⟩
theorem iIsLabel_any (s : ByteArray) (w : World) (hs : s.size ≤ maxLen) : Calls Tryz.prog 55 #[.string s] w fun e w' => e = .returned (.bool (labS s)) ∧ w = w' := by
  unfold maxLen at hs
  by_cases h : s.size = 1
  · obtain ⟨c, rfl⟩ := one_byte h
    clear h hs
    have HM := Lib.hid (lab_mem c)
    cases h1 : inB 97 122 (c.toNat : Int) with
    | true =>
      have H1 := Lib.hid h1
      have h2 : inB 97 122 (((⟨#[c]⟩ : ByteArray)[0]'(by exact Nat.zero_lt_one)).toNat : Int) = true := h1
      go_enter Tryz.func55, Tryz.ntmps55
      go_wp2_with (first | (go_at_call 73; with_reducible refine (isLetter_any _ _).mono ?_; rintro e w' ⟨rfl, rfl⟩))
      go_ret
      exact ⟨ret_bool (by rw [labS_one]; unfold labI; rw [H1.out]; simp), rfl⟩
    | false =>
      have H1 := Lib.hid h1
      have h2 : inB 97 122 (((⟨#[c]⟩ : ByteArray)[0]'(by exact Nat.zero_lt_one)).toNat : Int) = false := h1
      go_enter Tryz.func55, Tryz.ntmps55
      go_wp2_with (first | (go_at_call 73; with_reducible refine (isLetter_any _ _).mono ?_; rintro e w' ⟨rfl, rfl⟩) | (go_at_call 74; refine (Tryz.strings_Contains_one _ c _).mono ?_; rintro e w' ⟨rfl, rfl⟩))
      go_ret
      exact ⟨ret_bool (by rw [labS_one]; unfold labI; rw [H1.out, Bool.false_or]; exact HM.out), rfl⟩
  · have h1 : ((s.size : Int) == 1) = false := by simp; omega
    have H := Lib.hid h
    clear h
    go_enter Tryz.func55, Tryz.ntmps55
    go_wp2
    go_ret
    exact ⟨ret_bool (labS_no H.out).symm, rfl⟩
end Go.Proofs.YtnjifhlabbejoaaGreatDoor
