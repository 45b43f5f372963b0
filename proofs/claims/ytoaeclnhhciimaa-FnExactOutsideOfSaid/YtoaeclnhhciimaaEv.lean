/- Contracts of the tests on envelopes. -/
import Derived.Test.YtoaeclnhhciimaaSc
import Derived.Test.YtoaeclnhhciimaaFlInt
import Derived.Test.YtoaeclnhhciimaaPm
namespace Go.Proofs.Ytoaeclnhhciimaa
open Go.ChangeShapes Go.WideShapes Go.ChangeAt Go.RowKit
theorem quiet_of_q {P : Program} {f : FuncId} {args : Array Value} {w : World} {v : Value} (n : Nat)
    (h : Calls P f args (w.drewN n) fun e w' => e = .returned v ∧ ∃ m, w' = (w.drewN n).drewN m) : Calls P f args (w.drewN n) fun e w'' => e = .returned v ∧ ∃ m, w'' = w.drewN m :=
  h.mono fun _ _ ⟨he, m, hm⟩ => ⟨he, n + m, by rw [hm, World.drewN_drewN]⟩
def lmOk (x y : Int) : Bool := inB 0 y x && decide (y ≤ 255)
def vlB (xs ys : List Int) : Bool := (List.range xs.length).all fun k => lmOk (xs.getD k 0) (ys.getD k 0)
def bdB (xs ys : List Int) : Bool := (decide (ys.length = xs.length) && inB 1 72 xs.length) && vlB xs ys
def vlN (xs ys : List Int) (n : Int) : Bool := (decide ((xs.length : Int) = n) && decide ((ys.length : Int) = n)) && vlB xs ys
set_option maxHeartbeats 1000000 in
theorem l10Bounds_any (A A' : Option Addr) (n c n' c' : Nat) (xs ys : List Int) (w : World) (hr : RdL c1 1 w w.heap.size A n c xs) (hr' : RdL c1 1 w w.heap.size A' n' c' ys) (hn : n ≤ 1048576) (hn' : n' ≤ 1048576) :
    Calls Try.prog 123 #[.slice A n c, .slice A' n' c'] w fun e w' => e = .returned (.bool (bdB xs ys)) ∧ ∃ m, w' = w.drewN m := by
  have hl := Lib.hid hr.len
  have hl' := Lib.hid hr'.len
  by_cases hnn : n = n'
  · subst hnn
    by_cases hI : inB 1 72 (n : Int) = true
    · have HB : Hid (bdB xs ys = vlB xs ys) := by unfold Hid bdB; rw [hl.out, hl'.out, hI]; simp
      go_enter Try.func123, Try.ntmps123
      go_wp2_with (first | (go_at_call 80; with_reducible refine (l00In_any _ _ _ _).mono ?_; rintro e w' ⟨rfl, rfl⟩))
      go_loopw [5] (fun i wr => ∃ k : Nat, k ≤ n ∧ i = .int .i64 k ∧ (∃ q : Nat, wr = w.drewN q) ∧ Hid ((List.range k).all (fun k => lmOk (xs.getD k 0) (ys.getD k 0)) = true)) (fun i _ => n - (intOf i).toNat)
      case atStart => exact ⟨0, by omega, rfl, ⟨0, rfl⟩, rfl⟩
      case round =>
        obtain ⟨k, hk, rfl, ⟨q, rfl⟩, hw⟩ := hrel
        by_cases hlt : k < n
        · obtain ⟨b, off, x, rfl, hbl, hx, q0⟩ := hr.at1 hlt
          obtain ⟨b', off', y, rfl, hbl', hy, q0'⟩ := hr'.at1 hlt
          have i1 : (k : Int) < (n : Int) := by omega
          have i2 : (0 : Int) ≤ (k : Int) := by omega
          clear hr hr'
          by_cases hA : inB 0 y x = true
          · have HA := Lib.hid hA
            by_cases hC : 255 < y
            · go_wp2
              go_quiet ((go_at_call 80; first | (with_reducible exact quiet_left (l00In_any _ _ _ _)) | (with_reducible exact quiet_add_left (l00In_any _ _ _ _))))
              go_wp2
              go_ret
              exact ⟨ret_bool (by rw [HB.out]; unfold vlB; rw [hl.out, rg_fail hlt (by rw [getD_of hx.out, getD_of hy.out]; unfold lmOk; rw [decide_eq_false (by omega), Bool.and_false])]), (by first | exact ⟨_, rfl⟩ | exact ⟨_, World.drewN_drewN _ _ _⟩)⟩
            · go_wp2
              go_quiet ((go_at_call 80; first | (with_reducible exact quiet_left (l00In_any _ _ _ _)) | (with_reducible exact quiet_add_left (l00In_any _ _ _ _))))
              go_wp2
              exact ⟨⟨k + 1, by omega, by go_num, (by first | exact ⟨_, rfl⟩ | exact ⟨_, World.drewN_drewN _ _ _⟩), rg_step hw.out (by rw [getD_of hx.out, getD_of hy.out]; unfold lmOk; rw [HA.out, decide_eq_true (by omega)]; rfl)⟩, by simp [intOf]; omega⟩
          · have HA : Hid (inB 0 y x = false) := by simpa [Hid] using hA
            have hA' := HA.out
            go_wp2
            go_quiet ((go_at_call 80; first | (with_reducible exact quiet_left (l00In_any _ _ _ _)) | (with_reducible exact quiet_add_left (l00In_any _ _ _ _))))
            go_wp2
            go_ret
            exact ⟨ret_bool (by rw [HB.out]; unfold vlB; rw [hl.out, rg_fail hlt (by rw [getD_of hx.out, getD_of hy.out]; unfold lmOk; rw [HA.out, Bool.false_and])]), (by first | exact ⟨_, rfl⟩ | exact ⟨_, World.drewN_drewN _ _ _⟩)⟩
        · clear hr hr'
          go_wp2
          go_ret
          have hkn : k = n := by omega
          subst hkn
          exact ⟨ret_bool (by rw [HB.out]; unfold vlB; rw [hl.out, hw.out]), (by first | exact ⟨_, rfl⟩ | exact ⟨_, World.drewN_drewN _ _ _⟩)⟩
    · have HI : Hid (inB 1 72 (n : Int) = false) := by simpa [Hid] using hI
      have hI' := HI.out
      clear hr hr'
      go_enter Try.func123, Try.ntmps123
      go_wp2_with (first | (go_at_call 80; with_reducible refine (l00In_any _ _ _ _).mono ?_; rintro e w' ⟨rfl, rfl⟩))
      go_ret
      exact ⟨ret_bool (by unfold bdB; rw [hl.out, HI.out, Bool.and_false, Bool.false_and]), ⟨0, rfl⟩⟩
  · clear hr hr'
    have hne : ((n : Int) != (n' : Int)) = true := by simp; omega
    go_enter Try.func123, Try.ntmps123
    go_wp2
    go_ret
    exact ⟨ret_bool (by unfold bdB; rw [hl.out, hl'.out, decide_eq_false (by omega)]; rfl), ⟨0, rfl⟩⟩
set_option maxHeartbeats 1000000 in
theorem validLimits_any (A A' : Option Addr) (n c n' c' : Nat) (m : Nat) (xs ys : List Int) (w : World) (hr : RdL c1 1 w w.heap.size A n c xs) (hr' : RdL c1 1 w w.heap.size A' n' c' ys) (hn : n ≤ 1048576) (hn' : n' ≤ 1048576) (hm : m ≤ 1048576) :
    Calls Try.prog 68 #[.slice A n c, .slice A' n' c', .int .i64 m] w fun e w' => e = .returned (.bool (vlN xs ys m)) ∧ Below w.heap.size w w' := by
  have hl := Lib.hid hr.len
  have hl' := Lib.hid hr'.len
  by_cases hnm : n = m
  · subst hnm
    by_cases hnn : n = n'
    · subst hnn
      have HB : Hid (vlN xs ys n = vlB xs ys) := by unfold Hid vlN; rw [hl.out, hl'.out]; simp
      go_enter Try.func68, Try.ntmps68
      go_wp2
      go_loopw [20] (fun i wr => ∃ k : Nat, k ≤ n ∧ i = .int .i64 k ∧ Below w.heap.size w wr ∧ Hid ((List.range k).all (fun k => lmOk (xs.getD k 0) (ys.getD k 0)) = true)) (fun i _ => n - (intOf i).toNat)
      case atStart => exact ⟨0, by omega, rfl, Below.refl _ _, rfl⟩
      case round =>
        obtain ⟨k, hk, rfl, hb, hw⟩ := hrel
        by_cases hlt : k < n
        · obtain ⟨b, off, x, rfl, hbl, hx, q0⟩ := (hr.below hb).at1 hlt
          obtain ⟨b', off', y, rfl, hbl', hy, q0'⟩ := (hr'.below hb).at1 hlt
          have i1 : (k : Int) < (n : Int) := by omega
          have i2 : (0 : Int) ≤ (k : Int) := by omega
          have HF : Hid (lmOk x y = false → vlN xs ys n = false) := by
            intro h; rw [HB.out]; unfold vlB; rw [hl.out, rg_fail hlt (by rw [getD_of hx.out, getD_of hy.out]; exact h)]
          clear hr hr'
          by_cases h1 : x < 0
          · go_wp2
            go_quiet (fail)
            go_wp2
            go_ret
            exact ⟨ret_bool (HF.out (by unfold lmOk; rw [inB_lo h1]; rfl)).symm, (by repeat (first | exact Below.refl _ _ | assumption | refine Below.drew ?_ | refine below_drewN ?_ _ | refine Below.alloc ?_ (by first | omega | (simp <;> omega)) _ | refine Below.setCell ?_ (by first | omega | (simp <;> omega)) _))⟩
          · have d1 : decide (x < 0) = false := by simpa using h1
            by_cases h2 : y < x
            · go_wp2
              go_quiet (fail)
              go_wp2
              go_ret
              exact ⟨ret_bool (HF.out (by unfold lmOk; rw [inB_no.2 (.inr h2)]; rfl)).symm, (by repeat (first | exact Below.refl _ _ | assumption | refine Below.drew ?_ | refine below_drewN ?_ _ | refine Below.alloc ?_ (by first | omega | (simp <;> omega)) _ | refine Below.setCell ?_ (by first | omega | (simp <;> omega)) _))⟩
            · have d2 : decide (y < x) = false := by simpa using h2
              by_cases h3 : 255 < y
              · go_wp2
                go_quiet (fail)
                go_wp2
                go_ret
                exact ⟨ret_bool (HF.out (by unfold lmOk; rw [decide_eq_false (by omega), Bool.and_false])).symm, (by repeat (first | exact Below.refl _ _ | assumption | refine Below.drew ?_ | refine below_drewN ?_ _ | refine Below.alloc ?_ (by first | omega | (simp <;> omega)) _ | refine Below.setCell ?_ (by first | omega | (simp <;> omega)) _))⟩
              · go_wp2
                go_quiet (fail)
                go_wp2
                exact ⟨⟨k + 1, by omega, by go_num, (by repeat (first | exact Below.refl _ _ | assumption | refine Below.drew ?_ | refine below_drewN ?_ _ | refine Below.alloc ?_ (by first | omega | (simp <;> omega)) _ | refine Below.setCell ?_ (by first | omega | (simp <;> omega)) _)), rg_step hw.out (by rw [getD_of hx.out, getD_of hy.out]; unfold lmOk; rw [inB_iff.2 ⟨by omega, by omega⟩, decide_eq_true (by omega)]; rfl)⟩, by simp [intOf]; omega⟩
        · clear hr hr'
          go_wp2
          go_ret
          have hkn : k = n := by omega
          subst hkn
          exact ⟨ret_bool (by rw [HB.out]; unfold vlB; rw [hl.out, hw.out]), hb⟩
    · clear hr hr'
      have hne : ((n' : Int) != (n : Int)) = true := by simp; omega
      go_enter Try.func68, Try.ntmps68
      go_wp2
      go_ret
      exact ⟨ret_bool (by unfold vlN; rw [hl.out, hl'.out, decide_eq_false (show ¬ (n' : Int) = (n : Int) by omega), Bool.and_false, Bool.false_and]), Below.refl _ _⟩
  · clear hr hr'
    have hne : ((n : Int) != (m : Int)) = true := by simp; omega
    go_enter Try.func68, Try.ntmps68
    go_wp2
    go_ret
    exact ⟨ret_bool (by unfold vlN; rw [hl.out, decide_eq_false (show ¬ (n : Int) = (m : Int) by omega), Bool.false_and, Bool.false_and]), Below.refl _ _⟩
def envB (la lb lc ld : List Int) : Bool := (inB 1 72 la.length && vlN la lb la.length) && vlN lc ld la.length
theorem env_same (la lb lc ld : List Int) : ((bdB la lb && bdB lc ld) && decide ((la.length : Int) = lc.length)) = envB la lb lc ld := by
  rw [Bool.eq_iff_iff]
  unfold envB bdB vlN
  simp only [Bool.and_eq_true, decide_eq_true_eq]
  constructor
  · rintro ⟨⟨⟨⟨h1, h2⟩, h3⟩, ⟨⟨h4, h5⟩, h6⟩⟩, h7⟩
    exact ⟨⟨h2, ⟨trivial, by omega⟩, h3⟩, ⟨by omega, by omega⟩, h6⟩
  · rintro ⟨⟨h2, ⟨_, h1⟩, h3⟩, ⟨h4, h5⟩, h6⟩
    exact ⟨⟨⟨⟨by omega, h2⟩, h3⟩, ⟨⟨by omega, by rw [h4]; exact h2⟩, h6⟩⟩, by omega⟩
set_option maxHeartbeats 1000000 in
theorem iValidEnv_any (A B C D : Option Addr) (na ca nb cb nc cc nd cd : Nat) (la lb lc ld : List Int) (w : World) (ra : RdL c1 1 w w.heap.size A na ca la) (rb : RdL c1 1 w w.heap.size B nb cb lb) (rc : RdL c1 1 w w.heap.size C nc cc lc) (rd : RdL c1 1 w w.heap.size D nd cd ld)
    (ha : na ≤ 1048576) (hb : nb ≤ 1048576) (hc : nc ≤ 1048576) (hd : nd ≤ 1048576) :
    Calls Try.prog 18 #[.agg #[.slice A na ca, .slice B nb cb, .slice C nc cc, .slice D nd cd]] w fun e w' => e = .returned (.bool (envB la lb lc ld)) ∧ Below w.heap.size w w' := by
  have K0 := Blk.new w 27 #[.slice A na ca, .slice B nb cb, .slice C nc cc, .slice D nd cd]
  have hba : Below w.heap.size w (w.alloc (.cells #[.slice A na ca, .slice B nb cb, .slice C nc cc, .slice D nd cd] 27)) := (Below.refl _ _).alloc (Nat.le_refl _) _
  have hl := Lib.hid ra.len
  by_cases h1 : inB 1 72 (na : Int) = true
  · obtain ⟨h10, h11⟩ := inB_iff.1 h1
    have H1 := Lib.hid h1
    clear h1
    by_cases h2 : vlN la lb na = true
    · have H2 := Lib.hid h2
      go_enter Try.func18, Try.ntmps18
      go_wp2_with fail
      with_reducible refine (validLimits_any _ _ _ _ _ _ na _ _ _ (ra.on hba) (rb.on hba) ha hb ha).mono ?_
      rintro e w1 ⟨rfl, hb1⟩
      have K1 := K0.on hb1
      have e2 := K1.cell 2
      have e3 := K1.cell 3
      simp only [List.getElem?_toArray, List.getElem?_cons_succ, List.getElem?_cons_zero] at e2 e3
      go_wp2_with fail
      with_reducible refine (validLimits_any _ _ _ _ _ _ na _ _ _ ((rc.on hba).on hb1) ((rd.on hba).on hb1) hc hd ha).mono ?_
      rintro e w2 ⟨rfl, hb2⟩
      go_wp2
      go_ret
      exact ⟨ret_bool (by unfold envB; rw [hl.out, H1.out, H2.out]; rfl), below_on hb2 (below_on hb1 hba)⟩
    · have H2 : Hid (vlN la lb na = false) := by simpa [Hid] using h2
      have h2' := H2.out
      go_enter Try.func18, Try.ntmps18
      go_wp2_with fail
      with_reducible refine (validLimits_any _ _ _ _ _ _ na _ _ _ (ra.on hba) (rb.on hba) ha hb ha).mono ?_
      rintro e w1 ⟨rfl, hb1⟩
      go_wp2
      go_ret
      exact ⟨ret_bool (by unfold envB; rw [hl.out, H2.out, Bool.and_false, Bool.false_and]), below_on hb1 hba⟩
  · have H1 : Hid (inB 1 72 (na : Int) = false) := by simpa [Hid] using h1
    have hh := inB_no.1 H1.out
    by_cases h10 : (na : Int) < 1
    · go_enter Try.func18, Try.ntmps18
      go_wp2
      go_ret
      exact ⟨ret_bool (by unfold envB; rw [hl.out, H1.out, Bool.false_and, Bool.false_and]), hba⟩
    · have h11 : (72 : Int) < (na : Int) := by omega
      go_enter Try.func18, Try.ntmps18
      go_wp2
      go_ret
      exact ⟨ret_bool (by unfold envB; rw [hl.out, H1.out, Bool.false_and, Bool.false_and]), hba⟩
set_option maxHeartbeats 2000000 in
theorem l10Ok_any (g : Nat) (A B C D : Option Addr) (na ca nb cb nc cc nd cd : Nat) (la lb lc ld : List Int) (w : World) (T : TypeId) (K0 : Blk w g T #[.slice A na ca, .slice B nb cb, .slice C nc cc, .slice D nd cd])
    (ra : RdL c1 1 w w.heap.size A na ca la) (rb : RdL c1 1 w w.heap.size B nb cb lb) (rc : RdL c1 1 w w.heap.size C nc cc lc) (rd : RdL c1 1 w w.heap.size D nd cd ld)
    (ha : na ≤ 1048576) (hb : nb ≤ 1048576) (hc : nc ≤ 1048576) (hd : nd ≤ 1048576) :
    Calls Try.prog 66 #[.pointer (some ⟨g, 0, none⟩)] w fun e w' => e = .returned (.bool (envB la lb lc ld)) ∧ Below w.heap.size w w' := by
  have hl := Lib.hid ra.len
  have hl' := Lib.hid rc.len
  have e0 := K0.cell 0
  have e1 := K0.cell 1
  have e2 := K0.cell 2
  have e3 := K0.cell 3
  simp only [List.getElem?_toArray, List.getElem?_cons_succ, List.getElem?_cons_zero] at e0 e1 e2 e3
  have HS := Lib.hid (env_same la lb lc ld)
  have z1 := fun q => quiet_of_q (w := w) q (l10Bounds_any A B na ca nb cb la lb (w.drewN q) (ra.drewN q) (rb.drewN q) ha hb)
  have z2 := fun q => quiet_of_q (w := w) q (l10Bounds_any C D nc cc nd cd lc ld (w.drewN q) (rc.drewN q) (rd.drewN q) hc hd)
  have Z1 := Lib.hid z1
  have Z2 := Lib.hid z2
  clear z1 z2 ra rb rc rd
  generalize hB1 : bdB la lb = B1 at *
  generalize hB2 : bdB lc ld = B2 at *
  clear hB1 hB2 K0 ha hb hc hd
  cases B1 with
  | true =>
    cases B2 with
    | true =>
      go_enter Try.func66, Try.ntmps66
      go_wp2
      go_quiet ((go_at_call 123; first | (with_reducible exact Z1.out _) | (with_reducible exact Z2.out _)))
      go_wp2
      go_ret
      exact ⟨ret_bool (by rw [← HS.out, hl.out, hl'.out]; rw [Bool.eq_iff_iff]; simp), (by repeat (first | exact Below.refl _ _ | assumption | refine Below.drew ?_ | refine below_drewN ?_ _ | refine Below.alloc ?_ (by first | omega | (simp <;> omega)) _ | refine Below.setCell ?_ (by first | omega | (simp <;> omega)) _))⟩
    | false =>
      go_enter Try.func66, Try.ntmps66
      go_wp2
      go_quiet ((go_at_call 123; first | (with_reducible exact Z1.out _) | (with_reducible exact Z2.out _)))
      go_wp2
      go_ret
      exact ⟨ret_bool (by rw [← HS.out]; rfl), (by repeat (first | exact Below.refl _ _ | assumption | refine Below.drew ?_ | refine below_drewN ?_ _ | refine Below.alloc ?_ (by first | omega | (simp <;> omega)) _ | refine Below.setCell ?_ (by first | omega | (simp <;> omega)) _))⟩
  | false =>
    go_enter Try.func66, Try.ntmps66
    go_wp2
    go_quiet ((go_at_call 123; first | (with_reducible exact Z1.out _) | (with_reducible exact Z2.out _)))
    go_wp2
    go_ret
    exact ⟨ret_bool (by rw [← HS.out]; simp), (by repeat (first | exact Below.refl _ _ | assumption | refine Below.drew ?_ | refine below_drewN ?_ _ | refine Below.alloc ?_ (by first | omega | (simp <;> omega)) _ | refine Below.setCell ?_ (by first | omega | (simp <;> omega)) _))⟩
theorem sValidEnv_any (A B C D : Option Addr) (na ca nb cb nc cc nd cd : Nat) (la lb lc ld : List Int) (w : World) (ra : RdL c1 1 w w.heap.size A na ca la) (rb : RdL c1 1 w w.heap.size B nb cb lb) (rc : RdL c1 1 w w.heap.size C nc cc lc) (rd : RdL c1 1 w w.heap.size D nd cd ld)
    (ha : na ≤ 1048576) (hb : nb ≤ 1048576) (hc : nc ≤ 1048576) (hd : nd ≤ 1048576) :
    Calls Try.prog 16 #[.agg #[.slice A na ca, .slice B nb cb, .slice C nc cc, .slice D nd cd]] w fun e w' => e = .returned (.bool (envB la lb lc ld)) ∧ Below w.heap.size w w' := by
  have K0 := Blk.new w 27 #[.slice A na ca, .slice B nb cb, .slice C nc cc, .slice D nd cd]
  have hba : Below w.heap.size w (w.alloc (.cells #[.slice A na ca, .slice B nb cb, .slice C nc cc, .slice D nd cd] 27)) := (Below.refl _ _).alloc (Nat.le_refl _) _
  go_enter Try.func16, Try.ntmps16
  go_wp2_with fail
  with_reducible refine (l10Ok_any _ _ _ _ _ _ _ _ _ _ _ _ _ la lb lc ld _ _ K0 (ra.on hba) (rb.on hba) (rc.on hba) (rd.on hba) ha hb hc hd).mono ?_
  rintro e w1 ⟨rfl, hb1⟩
  go_wp2
  go_ret
  exact ⟨rfl, below_on hb1 hba⟩
set_option maxHeartbeats 2000000 in
theorem toEnv_any (A B C D : Option Addr) (na ca nb cb nc cc nd cd : Nat) (la lb lc ld : List Int) (w : World) (ra : RdL c1 1 w w.heap.size A na ca la) (rb : RdL c1 1 w w.heap.size B nb cb lb) (rc : RdL c1 1 w w.heap.size C nc cc lc) (rd : RdL c1 1 w w.heap.size D nd cd ld)
    (ha : na ≤ 1048576) (hb : nb ≤ 1048576) (hc : nc ≤ 1048576) (hd : nd ≤ 1048576) :
    Calls Try.prog 17 #[.agg #[.slice A na ca, .slice B nb cb, .slice C nc cc, .slice D nd cd]] w fun e w' => ∃ A' B' C' D', e = .returned (.agg #[.slice A' na na, .slice B' nb nb, .slice C' nc nc, .slice D' nd nd]) ∧ RdL c1 1 w' w'.heap.size A' na na la ∧ RdL c1 1 w' w'.heap.size B' nb nb lb ∧
      RdL c1 1 w' w'.heap.size C' nc nc lc ∧ RdL c1 1 w' w'.heap.size D' nd nd ld ∧ Below w.heap.size w w' := by
  go_enter Try.func17, Try.ntmps17
  go_wp2_with fail
  generalize hW : ((w.alloc (.cells #[.slice A na ca, .slice B nb cb, .slice C nc cc, .slice D nd cd] 24)).alloc (.cells #[.slice none 0 0, .slice none 0 0, .slice none 0 0, .slice none 0 0] 27)).alloc (.cells #[.slice none 0 0, .slice none 0 0, .slice none 0 0, .slice none 0 0] 27) = v0
  have B0 : Below w.heap.size w v0 := by rw [← hW]; exact (by repeat (first | exact Below.refl _ _ | assumption | refine Below.drew ?_ | refine below_drewN ?_ _ | refine Below.alloc ?_ (by first | omega | (simp <;> omega)) _ | refine Below.setCell ?_ (by first | omega | (simp <;> omega)) _))
  have K0 : Blk v0 w.heap.size 24 #[.slice A na ca, .slice B nb cb, .slice C nc cc, .slice D nd cd] := by rw [← hW]; exact ((Blk.new _ _ _).alloc _).alloc _
  have J0 : Blk v0 (w.heap.size + 1) 27 #[.slice none 0 0, .slice none 0 0, .slice none 0 0, .slice none 0 0] := by rw [← hW]; have := (Blk.new (w.alloc (.cells #[.slice A na ca, .slice B nb cb, .slice C nc cc, .slice D nd cd] 24)) 27 #[.slice none 0 0, .slice none 0 0, .slice none 0 0, .slice none 0 0]).alloc (.cells #[.slice none 0 0, .slice none 0 0, .slice none 0 0, .slice none 0 0] 27); simpa using this
  have M0 : Blk v0 (w.heap.size + 1 + 1) 27 #[.slice none 0 0, .slice none 0 0, .slice none 0 0, .slice none 0 0] := by rw [← hW]; have := Blk.new ((w.alloc (.cells #[.slice A na ca, .slice B nb cb, .slice C nc cc, .slice D nd cd] 24)).alloc (.cells #[.slice none 0 0, .slice none 0 0, .slice none 0 0, .slice none 0 0] 27)) 27 #[.slice none 0 0, .slice none 0 0, .slice none 0 0, .slice none 0 0]; simpa using this
  have s0 : w.heap.size + 1 + 1 < v0.heap.size := M0.lt
  clear hW
  with_reducible refine (toInt64S_any _ _ _ la _ (ra.on B0) ha).mono ?_
  rintro e w1 ⟨rfl, o1, hb1⟩
  have z1 := hb1.size
  replace B0 := below_on hb1 B0
  replace K0 := K0.on hb1
  replace J0 := J0.on hb1
  replace M0 := M0.on hb1
  have x1 := M0.cell 0
  have y1 := M0.frozen 0
  have u1 := K0.cell 1
  simp only [List.getElem?_toArray, List.getElem?_cons_succ, List.getElem?_cons_zero] at x1 u1
  go_wp2_with fail
  clear x1 y1 u1
  generalize hW : w1.setCell ⟨w.heap.size + 1 + 1, 0, none⟩ (.slice (some ⟨v0.heap.size, 0, none⟩) na na) = v1
  have s1 : v1.heap.size = w1.heap.size := by rw [← hW]; simp [World.setCell]
  replace B0 : Below w.heap.size w v1 := by rw [← hW]; exact B0.setCell (by simp only; omega) _
  replace K0 : Blk v1 w.heap.size 24 #[.slice A na ca, .slice B nb cb, .slice C nc cc, .slice D nd cd] := by rw [← hW]; exact K0.far (by simp only; omega) _
  replace J0 : Blk v1 (w.heap.size + 1) 27 #[.slice none 0 0, .slice none 0 0, .slice none 0 0, .slice none 0 0] := by rw [← hW]; exact J0.far (by simp only; omega) _
  replace M0 : Blk v1 (w.heap.size + 1 + 1) 27 #[.slice (some ⟨v0.heap.size, 0, none⟩) na na, .slice none 0 0, .slice none 0 0, .slice none 0 0] := by rw [← hW]; exact M0.set_ 0 _
  replace o1 : v1.ownsRow v0.heap.size 2 1 (.slice (some ⟨v0.heap.size, 0, none⟩) na na) na (la.flatMap c1) := by rw [← hW]; exact ownsRow_setCell_below o1 (by simp only; omega) _
  clear hW
  have S1 := Lib.hid s1
  have S1' : w.heap.size + 1 + 1 < v1.heap.size := by omega
  clear s1
  with_reducible refine (toInt64S_any _ _ _ lb _ (rb.on B0) hb).mono ?_
  rintro e w2 ⟨rfl, o2, hb2⟩
  have z2 := hb2.size
  replace B0 := below_on hb2 B0
  replace K0 := K0.on hb2
  replace J0 := J0.on hb2
  replace M0 := M0.on hb2
  replace o1 := own_below o1 hb2
  have x2 := M0.cell 1
  have y2 := M0.frozen 1
  have u2 := K0.cell 2
  simp only [List.getElem?_toArray, List.getElem?_cons_succ, List.getElem?_cons_zero] at x2 u2
  go_wp2_with fail
  clear x2 y2 u2
  generalize hW : w2.setCell ⟨w.heap.size + 1 + 1, 1, none⟩ (.slice (some ⟨v1.heap.size, 0, none⟩) nb nb) = v2
  have s2 : v2.heap.size = w2.heap.size := by rw [← hW]; simp [World.setCell]
  replace B0 : Below w.heap.size w v2 := by rw [← hW]; exact B0.setCell (by simp only; omega) _
  replace K0 : Blk v2 w.heap.size 24 #[.slice A na ca, .slice B nb cb, .slice C nc cc, .slice D nd cd] := by rw [← hW]; exact K0.far (by simp only; omega) _
  replace J0 : Blk v2 (w.heap.size + 1) 27 #[.slice none 0 0, .slice none 0 0, .slice none 0 0, .slice none 0 0] := by rw [← hW]; exact J0.far (by simp only; omega) _
  replace M0 : Blk v2 (w.heap.size + 1 + 1) 27 #[.slice (some ⟨v0.heap.size, 0, none⟩) na na, .slice (some ⟨v1.heap.size, 0, none⟩) nb nb, .slice none 0 0, .slice none 0 0] := by rw [← hW]; exact M0.set_ 1 _
  replace o1 : v2.ownsRow v0.heap.size 2 1 (.slice (some ⟨v0.heap.size, 0, none⟩) na na) na (la.flatMap c1) := by rw [← hW]; exact ownsRow_setCell_below o1 (by simp only; omega) _
  replace o2 : v2.ownsRow v1.heap.size 2 1 (.slice (some ⟨v1.heap.size, 0, none⟩) nb nb) nb (lb.flatMap c1) := by rw [← hW]; exact ownsRow_setCell_below o2 (by simp only; omega) _
  clear hW
  have S2 := Lib.hid s2
  have S2' : w.heap.size + 1 + 1 < v2.heap.size := by omega
  clear s2
  with_reducible refine (toInt64S_any _ _ _ lc _ (rc.on B0) hc).mono ?_
  rintro e w3 ⟨rfl, o3, hb3⟩
  have z3 := hb3.size
  replace B0 := below_on hb3 B0
  replace K0 := K0.on hb3
  replace J0 := J0.on hb3
  replace M0 := M0.on hb3
  replace o1 := own_below o1 hb3
  replace o2 := own_below o2 hb3
  have x3 := M0.cell 2
  have y3 := M0.frozen 2
  have u3 := K0.cell 3
  simp only [List.getElem?_toArray, List.getElem?_cons_succ, List.getElem?_cons_zero] at x3 u3
  go_wp2_with fail
  clear x3 y3 u3
  generalize hW : w3.setCell ⟨w.heap.size + 1 + 1, 2, none⟩ (.slice (some ⟨v2.heap.size, 0, none⟩) nc nc) = v3
  have s3 : v3.heap.size = w3.heap.size := by rw [← hW]; simp [World.setCell]
  replace B0 : Below w.heap.size w v3 := by rw [← hW]; exact B0.setCell (by simp only; omega) _
  replace K0 : Blk v3 w.heap.size 24 #[.slice A na ca, .slice B nb cb, .slice C nc cc, .slice D nd cd] := by rw [← hW]; exact K0.far (by simp only; omega) _
  replace J0 : Blk v3 (w.heap.size + 1) 27 #[.slice none 0 0, .slice none 0 0, .slice none 0 0, .slice none 0 0] := by rw [← hW]; exact J0.far (by simp only; omega) _
  replace M0 : Blk v3 (w.heap.size + 1 + 1) 27 #[.slice (some ⟨v0.heap.size, 0, none⟩) na na, .slice (some ⟨v1.heap.size, 0, none⟩) nb nb, .slice (some ⟨v2.heap.size, 0, none⟩) nc nc, .slice none 0 0] := by rw [← hW]; exact M0.set_ 2 _
  replace o1 : v3.ownsRow v0.heap.size 2 1 (.slice (some ⟨v0.heap.size, 0, none⟩) na na) na (la.flatMap c1) := by rw [← hW]; exact ownsRow_setCell_below o1 (by simp only; omega) _
  replace o2 : v3.ownsRow v1.heap.size 2 1 (.slice (some ⟨v1.heap.size, 0, none⟩) nb nb) nb (lb.flatMap c1) := by rw [← hW]; exact ownsRow_setCell_below o2 (by simp only; omega) _
  replace o3 : v3.ownsRow v2.heap.size 2 1 (.slice (some ⟨v2.heap.size, 0, none⟩) nc nc) nc (lc.flatMap c1) := by rw [← hW]; exact ownsRow_setCell_below o3 (by simp only; omega) _
  clear hW
  have S3 := Lib.hid s3
  have S3' : w.heap.size + 1 + 1 < v3.heap.size := by omega
  clear s3
  with_reducible refine (toInt64S_any _ _ _ ld _ (rd.on B0) hd).mono ?_
  rintro e w4 ⟨rfl, o4, hb4⟩
  have z4 := hb4.size
  replace B0 := below_on hb4 B0
  replace K0 := K0.on hb4
  replace J0 := J0.on hb4
  replace M0 := M0.on hb4
  replace o1 := own_below o1 hb4
  replace o2 := own_below o2 hb4
  replace o3 := own_below o3 hb4
  have x4 := M0.cell 3
  have y4 := M0.frozen 3
  have j0 := J0.cell 0
  have j1 := J0.cell 1
  have j2 := J0.cell 2
  have j3 := J0.cell 3
  have k0 := J0.frozen 0
  have k1 := J0.frozen 1
  have k2 := J0.frozen 2
  have k3 := J0.frozen 3
  have m0 := M0.cell 0
  have m1 := M0.cell 1
  have m2 := M0.cell 2
  simp only [List.getElem?_toArray, List.getElem?_cons_succ, List.getElem?_cons_zero] at x4 j0 j1 j2 j3 m0 m1 m2
  go_wp2
  refine bodyPost_ret (v := .agg #[.slice (some ⟨v0.heap.size, 0, none⟩) na na, .slice (some ⟨v1.heap.size, 0, none⟩) nb nb, .slice (some ⟨v2.heap.size, 0, none⟩) nc nc, .slice (some ⟨v3.heap.size, 0, none⟩) nd nd]) (by simp [results, Try.results17, go_sem, j0, j1, j2, j3]) rfl ⟨_, _, _, _, rfl, ?_, ?_, ?_, ?_, ?_⟩
  · repeat ((with_reducible refine RdL.farh ?_ ?_ _); rotate_left; (intro ad h; cases h; simp only; omega))
    exact RdL.of_own ra.len o1
  · repeat ((with_reducible refine RdL.farh ?_ ?_ _); rotate_left; (intro ad h; cases h; simp only; omega))
    exact RdL.of_own rb.len o2
  · repeat ((with_reducible refine RdL.farh ?_ ?_ _); rotate_left; (intro ad h; cases h; simp only; omega))
    exact RdL.of_own rc.len o3
  · repeat ((with_reducible refine RdL.farh ?_ ?_ _); rotate_left; (intro ad h; cases h; simp only; omega))
    exact RdL.of_own rd.len o4
  · exact (by repeat (first | exact Below.refl _ _ | assumption | refine Below.drew ?_ | refine below_drewN ?_ _ | refine Below.alloc ?_ (by first | omega | (simp <;> omega)) _ | refine Below.setCell ?_ (by first | omega | (simp <;> omega)) _))
end Go.Proofs.Ytoaeclnhhciimaa
