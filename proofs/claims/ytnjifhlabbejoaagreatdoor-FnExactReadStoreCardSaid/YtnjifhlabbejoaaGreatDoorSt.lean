/- Valid stores: the program's and the reference's. -/
import Derived.Test.YtnjifhlabbejoaaGreatDoorTl
import Derived.Test.YtnjifhlabbejoaaGreatDoorLb
import Derived.Test.YtnjifhlabbejoaaGreatDoorFe
import Derived.Test.YtnjifhlabbejoaaGreatDoorBx
import Derived.Deep.RegionHeld3
namespace Go.Proofs.YtnjifhlabbejoaaGreatDoor
open Go.ChangeShapes Go.WideShapes Go.ChangeAt Go.RowKit
set_option linter.unusedVariables false
set_option linter.unusedSimpArgs false
def tmplB (x : TV) : Bool := labS x.1 && featsOk 72 x.2
def storeB (z : Int) (xs : List TV) : Bool := xs.all tmplB && (inB 0 72 z && decide (xs.length ≤ 40))
theorem tmplB_lab {s : ByteArray} {x : List T3} (h : labS s = false) : tmplB (s, x) = false := by unfold tmplB; rw [h]; rfl
theorem tmplB_seq {s : ByteArray} {x : List T3} (h : labS s = true) : tmplB (s, x) = featsOk 72 x := by unfold tmplB; rw [h]; rfl
theorem storeB_len {z : Int} {xs : List TV} (h : storeB z xs = true) : xs.length ≤ 40 := by
  unfold storeB at h; simp only [Bool.and_eq_true, decide_eq_true_eq] at h; exact h.2.2
theorem storeB_band {z : Int} {xs : List TV} (h : storeB z xs = true) : 0 ≤ z ∧ z ≤ 72 := by
  unfold storeB at h; simp only [Bool.and_eq_true] at h; exact inB_iff.1 h.2.1
theorem storeB_at {z : Int} {xs : List TV} (h : storeB z xs = true) {k : Nat} {s : ByteArray} {x : List T3} (hx : xs[k]? = some (s, x)) : labS s = true ∧ featsOk 72 x = true := by
  unfold storeB at h
  have h1 := all_at (Bool.and_eq_true_iff.1 h).1 hx
  exact Bool.and_eq_true_iff.1 h1
theorem iValidTempl_any (s : ByteArray) (A : Option Addr) (n c : Nat) (x : List T3) (w : World) (hs : s.size ≤ maxLen) (hr : RdL c3 3 w w.heap.size A n c x) (hn : n ≤ 1048576) :
    Calls Tryz.prog 33 #[.agg #[.string s, .slice A n c]] w fun e w' => e = .returned (.bool (tmplB (s, x))) ∧ Below w.heap.size w w' := by
  have hB : Below w.heap.size w (w.alloc (.cells #[.string s, .slice A n c] 42)) := (by repeat (first | exact Below.refl _ _ | assumption | refine Below.drew ?_ | refine below_drewN ?_ _ | refine Below.alloc ?_ (by first | omega | (simp <;> omega)) _ | refine Below.setCell ?_ (by first | omega | (simp <;> omega)) _))
  cases h : labS s with
  | false =>
    have F := Lib.hid (tmplB_lab (x := x) h)
    go_enter Tryz.func33, Tryz.ntmps33
    go_wp2_with fail
    with_reducible refine (iIsLabel_any s _ hs).mono ?_
    rintro e w1 ⟨rfl, rfl⟩
    rw [h]
    go_wp2
    go_ret
    exact ⟨ret_bool F.out.symm, hB⟩
  | true =>
    have F := Lib.hid (tmplB_seq (x := x) h)
    go_enter Tryz.func33, Tryz.ntmps33
    go_wp2_with fail
    with_reducible refine (iIsLabel_any s _ hs).mono ?_
    rintro e w1 ⟨rfl, rfl⟩
    rw [h]
    go_wp2_with fail
    with_reducible refine (iValidSeq_any _ _ _ x _ (hr.on hB) hn).mono ?_
    rintro e w2 ⟨rfl, hbw2⟩
    go_wp2
    go_ret
    exact ⟨ret_bool F.out.symm, below_on hbw2 hB⟩
theorem notTempl_any (s : ByteArray) (A : Option Addr) (n c : Nat) (x : List T3) (w : World) (hs : s.size ≤ maxLen) (hr : RdL c3 3 w w.heap.size A n c x) (hn : n ≤ 1048576) :
    Calls Tryz.prog 32 #[.agg #[.string s, .slice A n c]] w fun e w' => e = .returned (.bool (!tmplB (s, x))) ∧ Below w.heap.size w w' := by
  have hB : Below w.heap.size w (w.alloc (.cells #[.string s, .slice A n c] 42)) := (by repeat (first | exact Below.refl _ _ | assumption | refine Below.drew ?_ | refine below_drewN ?_ _ | refine Below.alloc ?_ (by first | omega | (simp <;> omega)) _ | refine Below.setCell ?_ (by first | omega | (simp <;> omega)) _))
  go_enter Tryz.func32, Tryz.ntmps32
  go_wp2_with fail
  with_reducible refine (iValidTempl_any s _ _ _ x _ hs (hr.on hB) hn).mono ?_
  rintro e w1 ⟨rfl, hbw1⟩
  go_wp2
  go_ret
  exact ⟨rfl, below_on hbw1 hB⟩
set_option maxHeartbeats 400000 in
theorem idxTempl_any (A : Option Addr) (n c : Nat) (xs : List TV) (w : World) (hr : TL w w.heap.size A n c xs) (hn : totT xs ≤ 1048576) :
    Calls Tryz.prog 54 #[.slice A n c, .func (.func 32) #[] #[]] w fun e w' => ∃ r : Int, e = .returned (.int .i64 r) ∧ Hid (decide (0 ≤ r) = !xs.all tmplB) ∧ Below w.heap.size w w' := by
  have hl := Lib.hid hr.len
  have hcap : n ≤ 9223372036854775807 := Nat.le_trans hr.cap hr.capm
  have HN := Lib.hid hn
  clear hn
  go_enter Tryz.func54, Tryz.ntmps54
  go_wp2
  go_loopw [8] (fun i wr => ∃ k : Nat, k ≤ n ∧ i = .int .i64 k ∧ Below w.heap.size w wr ∧ Hid ((xs.take k).all tmplB = true)) (fun i _ => n - (intOf i).toNat)
  case atStart => exact ⟨0, by omega, rfl, Below.refl _ _, rfl⟩
  case round =>
    obtain ⟨k, hk, rfl, hb, hw⟩ := hrel
    by_cases hlt : k < n
    · obtain ⟨b, off, s, A', n', c', x, rfl, hbl, hx, q0, q1, hx3⟩ := (hr.on hb).at_ hlt
      have hxn : n' ≤ 1048576 := by have h := (totT_mem hx.out HN.out).2; rw [hx3.len] at h; omega
      have hss : s.size ≤ maxLen := by have h := (totT_mem hx.out HN.out).1; unfold maxLen; simp only at h; omega
      have hsz := hb.size
      have HX3 := Lib.hid hx3
      have HSS := Lib.hid hss
      clear hr hx3 hss
      cases ht : tmplB (s, x) with
      | true =>
        have HT := Lib.hid ht
        clear ht
        go_wp2_with fail
        with_reducible refine (notTempl_any s _ _ _ x _ HSS.out HX3.out hxn).mono ?_
        rintro e w1 ⟨rfl, hbw1⟩
        rw [HT.out]
        have hb3 := below_app hb hbw1 hb.size
        go_wp2
        exact ⟨⟨k + 1, by omega, by go_num, hb3, all_step hx.out hw.out HT.out⟩, by simp [intOf]; omega⟩
      | false =>
        have HT := Lib.hid ht
        clear ht
        go_wp2_with fail
        with_reducible refine (notTempl_any s _ _ _ x _ HSS.out HX3.out hxn).mono ?_
        rintro e w1 ⟨rfl, hbw1⟩
        rw [HT.out]
        have hb3 := below_app hb hbw1 hb.size
        go_wp2
        go_ret
        exact ⟨k, rfl, by unfold Hid; rw [all_fail hx.out HT.out]; simp, hb3⟩
    · clear hr
      go_wp2
      go_ret
      exact ⟨-1, rfl, by unfold Hid; rw [all_end (by have := hl.out; omega) hw.out]; rfl, hb⟩
theorem contTempl_any (A : Option Addr) (n c : Nat) (xs : List TV) (w : World) (hr : TL w w.heap.size A n c xs) (hn : totT xs ≤ 1048576) :
    Calls Tryz.prog 31 #[.slice A n c, .func (.func 32) #[] #[]] w fun e w' => e = .returned (.bool (!xs.all tmplB)) ∧ Below w.heap.size w w' := by
  go_enter Tryz.func31, Tryz.ntmps31
  go_wp2_with fail
  refine (idxTempl_any A n c xs w hr hn).mono ?_
  rintro e w' ⟨r, rfl, hr1, hb⟩
  go_wp2
  go_ret
  exact ⟨ret_bool hr1.out, hb⟩
theorem iValidStore_any (z : Int) (A : Option Addr) (n c : Nat) (xs : List TV) (w : World) (hr : TL w w.heap.size A n c xs) (hn : totT xs ≤ 1048576) :
    Calls Tryz.prog 15 #[.agg #[.int .i64 z, .slice A n c]] w fun e w' => e = .returned (.bool (storeB z xs)) ∧ Below w.heap.size w w' := by
  have hl := Lib.hid hr.len
  have hcap : n ≤ 9223372036854775807 := Nat.le_trans hr.cap hr.capm
  have hB : Below w.heap.size w (w.alloc (.cells #[.int .i64 z, .slice A n c] 24)) := (by repeat (first | exact Below.refl _ _ | assumption | refine Below.drew ?_ | refine below_drewN ?_ _ | refine Below.alloc ?_ (by first | omega | (simp <;> omega)) _ | refine Below.setCell ?_ (by first | omega | (simp <;> omega)) _))
  cases h : inB 0 72 z with
  | false =>
    have F : Hid (storeB z xs = false) := by unfold Hid storeB; rw [h]; simp
    clear hr
    go_enter Tryz.func15, Tryz.ntmps15
    go_wp2_with fail
    with_reducible refine (within_any _ _ _ _).mono ?_
    rintro e w1 ⟨rfl, rfl⟩
    rw [h]
    go_wp2
    go_ret
    exact ⟨ret_bool F.out.symm, hB⟩
  | true =>
    by_cases h4 : n ≤ 40
    · have F : Hid (storeB z xs = xs.all tmplB) := by unfold Hid storeB; rw [h, hl.out, decide_eq_true h4]; simp
      have h5 : (n : Int) ≤ 40 := by omega
      go_enter Tryz.func15, Tryz.ntmps15
      go_wp2_with fail
      with_reducible refine (within_any _ _ _ _).mono ?_
      rintro e w1 ⟨rfl, rfl⟩
      rw [h]
      go_wp2_with fail
      with_reducible refine (contTempl_any _ _ _ xs _ (hr.on hB) hn).mono ?_
      rintro e w2 ⟨rfl, hbw2⟩
      go_wp2
      go_ret
      exact ⟨ret_bool F.out.symm, below_on hbw2 hB⟩
    · have F : Hid (storeB z xs = false) := by unfold Hid storeB; rw [hl.out, decide_eq_false h4]; simp
      have h5 : ¬ (n : Int) ≤ 40 := by omega
      clear hr
      go_enter Tryz.func15, Tryz.ntmps15
      go_wp2_with fail
      with_reducible refine (within_any _ _ _ _).mono ?_
      rintro e w1 ⟨rfl, rfl⟩
      rw [h]
      go_wp2
      go_ret
      exact ⟨ret_bool F.out.symm, hB⟩
theorem l11Template_ptr (s : ByteArray) (A : Option Addr) (n c : Nat) (x : List T3) (w : World) (b o : Nat) (q0 : w.cell? ⟨b, o, none⟩ = some (.string s)) (q1 : w.cell? ⟨b, o + 1, none⟩ = some (.slice A n c)) (hs : s.size ≤ maxLen) (hr : RdL c3 3 w w.heap.size A n c x) (hn : n ≤ 1048576) :
    Calls Tryz.prog 45 #[.pointer (some ⟨b, o, none⟩)] w fun e w' => e = .returned (.bool (tmplB (s, x))) ∧ Below w.heap.size w w' := by
  cases h : labS s with
  | false =>
    have F := Lib.hid (tmplB_lab (x := x) h)
    go_enter Tryz.func45, Tryz.ntmps45
    go_wp2_with fail
    with_reducible refine (sIsLabel_any s _ hs).mono ?_
    rintro e w1 ⟨rfl, rfl⟩
    rw [h]
    go_wp2
    go_ret
    exact ⟨ret_bool F.out.symm, Below.refl _ _⟩
  | true =>
    have F := Lib.hid (tmplB_seq (x := x) h)
    go_enter Tryz.func45, Tryz.ntmps45
    go_wp2_with fail
    with_reducible refine (sIsLabel_any s _ hs).mono ?_
    rintro e w1 ⟨rfl, rfl⟩
    rw [h]
    go_wp2_with fail
    with_reducible refine (l09Ok_any _ _ _ x _ hr hn).mono ?_
    rintro e w2 ⟨rfl, hbw2⟩
    go_wp2
    go_ret
    exact ⟨ret_bool F.out.symm, hbw2⟩
set_option maxHeartbeats 1000000 in
theorem l11Ok_ptr (z : Int) (A : Option Addr) (n c : Nat) (xs : List TV) (w : World) (g0 : Nat) (K0 : Cel w g0 0 (.int .i64 z)) (K1 : Cel w g0 1 (.slice A n c)) (hr : TL w w.heap.size A n c xs) (hn : totT xs ≤ 1048576) :
    Calls Tryz.prog 22 #[.pointer (some ⟨g0, 0, none⟩)] w fun e w' => e = .returned (.bool (storeB z xs)) ∧ Below w.heap.size w w' := by
  have hl := Lib.hid hr.len
  have hcap : n ≤ 9223372036854775807 := Nat.le_trans hr.cap hr.capm
  have HN := Lib.hid hn
  clear hn
  have K0c := K0.cell
  have K1c := K1.cell
  have K0l := K0.lt
  go_enter Tryz.func22, Tryz.ntmps22
  go_wp2_with fail
  clear K0c K1c K0l
  go_loopw [3] (fun i wr => ∃ k : Nat, k ≤ n ∧ i = .int .i64 k ∧ Below w.heap.size w wr ∧ Hid ((xs.take k).all tmplB = true)) (fun i _ => n - (intOf i).toNat)
  case atStart => exact ⟨0, by omega, rfl, Below.refl _ _, rfl⟩
  case round =>
    obtain ⟨k, hk, rfl, hb, hw⟩ := hrel
    have k1 := (K1.on hb).cell
    have z1 := (K1.on hb).lt
    by_cases hlt : k < n
    · obtain ⟨b, off, s, A', n', c', x, rfl, hbl, hx, q0, q1, hx3⟩ := (hr.on hb).at_ hlt
      have hxn : n' ≤ 1048576 := by have h := (totT_mem hx.out HN.out).2; rw [hx3.len] at h; omega
      have hss : s.size ≤ maxLen := by have h := (totT_mem hx.out HN.out).1; unfold maxLen; simp only at h; omega
      have hsz := hb.size
      have HX3 := Lib.hid hx3
      have HSS := Lib.hid hss
      have i1 : (k : Int) < (n : Int) := by omega
      have i2 : (0 : Int) ≤ (k : Int) := by omega
      clear hr hx3 hss
      cases ht : tmplB (s, x) with
      | true =>
        have HT := Lib.hid ht
        clear ht
        go_wp2_with fail
        with_reducible refine (l11Template_ptr s _ _ _ x _ _ _ q0 q1 HSS.out HX3.out hxn).mono ?_
        rintro e w1 ⟨rfl, hbw1⟩
        rw [HT.out]
        have hb3 := below_app hb hbw1 hb.size
        go_wp2
        exact ⟨⟨k + 1, by omega, by go_num, hb3, all_step hx.out hw.out HT.out⟩, by simp [intOf]; omega⟩
      | false =>
        have HT := Lib.hid ht
        clear ht
        go_wp2_with fail
        with_reducible refine (l11Template_ptr s _ _ _ x _ _ _ q0 q1 HSS.out HX3.out hxn).mono ?_
        rintro e w1 ⟨rfl, hbw1⟩
        rw [HT.out]
        have hb3 := below_app hb hbw1 hb.size
        have F : Hid (storeB z xs = false) := by unfold Hid storeB; rw [all_fail hx.out HT.out]; rfl
        go_wp2
        go_ret
        exact ⟨ret_bool F.out.symm, hb3⟩
    · clear hr
      have k0 := (K0.on hb).cell
      have HA : Hid (xs.all tmplB = true) := all_end (by have := hl.out; omega) hw.out
      have hcast : (n : Int) ≤ 9223372036854775807 := by omega
      cases h : inB 0 72 z with
      | false =>
        have F : Hid (storeB z xs = false) := by unfold Hid storeB; rw [h]; simp
        have h9 := Lib.hid h
        clear h
        go_wp2_with fail
        with_reducible refine (l00In_any _ _ _ _).mono ?_
        rintro e w1 ⟨rfl, rfl⟩
        rw [h9.out]
        go_wp2
        go_ret
        exact ⟨ret_bool F.out.symm, hb⟩
      | true =>
        have F : Hid (storeB z xs = decide ((n : Int) ≤ 40)) := by unfold Hid storeB; rw [h, HA.out, hl.out, Bool.true_and, Bool.true_and]; exact decide_eq_decide.2 (by omega)
        have h9 := Lib.hid h
        clear h
        go_wp2_with fail
        with_reducible refine (l00In_any _ _ _ _).mono ?_
        rintro e w1 ⟨rfl, rfl⟩
        rw [h9.out]
        go_wp2
        go_ret
        exact ⟨ret_bool F.out.symm, hb⟩
end Go.Proofs.YtnjifhlabbejoaaGreatDoor
