/- Equal stores: the program's and the reference's. -/
import Derived.Test.YtammapaockmjkaaTl
import Derived.Test.YtammapaockmjkaaFe
import Derived.Test.YtammapaockmjkaaBx
import Derived.Deep.RegionHeld3
import Derived.Deep.QuietTactic
import Derived.BigQuiet
import Derived.Outline
namespace Go.Proofs.Ytammapaockmjkaa
open Go.ChangeShapes Go.WideShapes Go.ChangeAt Go.RowKit
set_option linter.unusedVariables false
set_option linter.unusedSimpArgs false
theorem eqd_pair {α β : Type} [DecidableEq α] [DecidableEq β] (a a' : α) (b b' : β) : eqd (a, b) (a', b') = (eqd a a' && eqd b b') := by
  rw [Bool.eq_iff_iff, Bool.and_eq_true, eqd_iff, eqd_iff, eqd_iff]; simp
def sameV (z z' : Int) (xs ys : List TV) : Bool := eqd z z' && eqd xs ys
theorem sameV_in (z : Int) (xs ys : List TV) : sameV z z xs ys = eqd xs ys := by unfold sameV; rw [eqd_iff.2 rfl]; rfl
theorem sameV_out {z z' : Int} (xs ys : List TV) (h : ¬ z = z') : sameV z z' xs ys = false := by unfold sameV; rw [eqd_no.2 h]; rfl
theorem sameTm_any (s s' : ByteArray) (A A' : Option Addr) (n c n' c' : Nat) (x x' : List T3) (w : World) (hr : RdL c3 3 w w.heap.size A n c x) (hr' : RdL c3 3 w w.heap.size A' n' c' x') (hn : n ≤ 1048576) :
    Calls Try.prog 87 #[.agg #[.string s, .slice A n c], .agg #[.string s', .slice A' n' c']] w fun e w' => e = .returned (.bool (eqd (s, x) (s', x'))) ∧ Below w.heap.size w w' := by
  have hB : Below w.heap.size w ((w.alloc (.cells #[.string s, .slice A n c] 58)).alloc (.cells #[.string s', .slice A' n' c'] 58)) := (by repeat (first | exact Below.refl _ _ | assumption | refine Below.drew ?_ | refine below_drewN ?_ _ | refine Below.alloc ?_ (by first | omega | (simp <;> omega)) _ | refine Below.setCell ?_ (by first | omega | (simp <;> omega)) _))
  by_cases h : s = s'
  · subst h
    have F : Hid (eqd (s, x) (s, x') = eqd x x') := by unfold Hid; rw [eqd_pair, eqd_iff.2 rfl]; rfl
    go_enter Try.func87, Try.ntmps87
    go_wp2_with fail
    with_reducible refine (slEqFeat_any _ _ _ _ _ _ _ _ _ (hr.on hB) (hr'.on hB) hn).mono ?_
    rintro e w1 ⟨rfl, hbw1⟩
    go_wp2
    go_ret
    exact ⟨ret_bool F.out.symm, below_on hbw1 hB⟩
  · have F : Hid (eqd (s, x) (s', x') = false) := by unfold Hid; rw [eqd_pair, eqd_no.2 h]; rfl
    have h1 := str_ne h
    have H := Lib.hid h
    clear h
    go_enter Try.func87, Try.ntmps87
    go_wp2
    go_ret
    exact ⟨ret_bool F.out.symm, hB⟩
set_option maxHeartbeats 1000000 in
theorem eqFuncT_any (A A' : Option Addr) (n c n' c' : Nat) (xs ys : List TV) (w : World) (hr : TL w w.heap.size A n c xs) (hr' : TL w w.heap.size A' n' c' ys) (hn : totT xs ≤ 1048576) :
    Calls Try.prog 86 #[.slice A n c, .slice A' n' c', .func (.func 87) #[] #[]] w fun e w' => e = .returned (.bool (eqd xs ys)) ∧ Below w.heap.size w w' := by
  have hl := Lib.hid hr.len
  have hl' := Lib.hid hr'.len
  have hcap : n ≤ 9223372036854775807 := Nat.le_trans hr.cap hr.capm
  have HN := Lib.hid hn
  clear hn
  by_cases hnn : n = n'
  · subst hnn
    go_enter Try.func86, Try.ntmps86
    go_wp2_with fail
    go_loopw [17] (fun i wr => ∃ k : Nat, k ≤ n ∧ i = .int .i64 k ∧ Below w.heap.size w wr ∧ Hid (xs.take k = ys.take k)) (fun i _ => n - (intOf i).toNat)
    case atStart => exact ⟨0, by omega, rfl, Below.refl _ _, rfl⟩
    case round =>
      obtain ⟨k, hk, rfl, hb, hw⟩ := hrel
      by_cases hlt : k < n
      · obtain ⟨b, off, s, A1, n1, c1, x, rfl, hbl, hx, q0, q1, hx3⟩ := (hr.on hb).at_ hlt
        obtain ⟨b', off', s', A1', n1', c1', x', rfl, hbl', hx', p0, p1, hx4⟩ := (hr'.on hb).at_ hlt
        have hxn : n1 ≤ 1048576 := by have h := (totT_mem hx.out HN.out).2; rw [hx3.len] at h; omega
        have hsz := hb.size
        have HX3 := Lib.hid hx3
        have HX4 := Lib.hid hx4
        have i1 : (k : Int) < (n : Int) := by omega
        have i2 : (0 : Int) ≤ (k : Int) := by omega
        have hbs : Below wr.heap.size wr ((wr.alloc (.cells #[.string s, .slice A1 n1 c1] 58)).alloc (.cells #[.string s', .slice A1' n1' c1'] 58)) := (by repeat (first | exact Below.refl _ _ | assumption | refine Below.drew ?_ | refine below_drewN ?_ _ | refine Below.alloc ?_ (by first | omega | (simp <;> omega)) _ | refine Below.setCell ?_ (by first | omega | (simp <;> omega)) _))
        clear hr hr' hx3 hx4
        cases ht : eqd (s, x) (s', x') with
        | true =>
          have HT := Lib.hid ht
          clear ht
          go_wp2_with fail
          with_reducible refine (sameTm_any s s' _ _ _ _ _ _ x x' _ (HX3.out.on hbs) (HX4.out.on hbs) hxn).mono ?_
          rintro e w1 ⟨rfl, hbw1⟩
          rw [HT.out]
          have hb3 := below_app hb (below_on hbw1 hbs) hb.size
          go_wp2
          exact ⟨⟨k + 1, by omega, by go_num, hb3, take_eq_step hw.out hx.out hx'.out (eqd_iff.1 HT.out)⟩, by simp [intOf]; omega⟩
        | false =>
          have HT := Lib.hid ht
          clear ht
          go_wp2_with fail
          with_reducible refine (sameTm_any s s' _ _ _ _ _ _ x x' _ (HX3.out.on hbs) (HX4.out.on hbs) hxn).mono ?_
          rintro e w1 ⟨rfl, hbw1⟩
          rw [HT.out]
          have hb3 := below_app hb (below_on hbw1 hbs) hb.size
          go_wp2
          go_ret
          exact ⟨ret_bool (eqd_no.2 (ne_at hx.out hx'.out (eqd_no.1 HT.out))).symm, hb3⟩
      · clear hr hr'
        go_wp2
        go_ret
        exact ⟨ret_bool (eqd_iff.2 (eq_end hw.out hl.out hl'.out (by omega))).symm, hb⟩
  · go_enter Try.func86, Try.ntmps86
    go_wp2
    go_ret
    exact ⟨ret_bool (eqd_no.2 (ne_len hl.out hl'.out hnn)).symm, Below.refl _ _⟩
theorem iSameStore_any (z z' : Int) (A A' : Option Addr) (n c n' c' : Nat) (xs ys : List TV) (w : World) (hr : TL w w.heap.size A n c xs) (hr' : TL w w.heap.size A' n' c' ys) (hn : totT xs ≤ 1048576) :
    Calls Try.prog 29 #[.agg #[.int .i64 z, .slice A n c], .agg #[.int .i64 z', .slice A' n' c']] w fun e w' => e = .returned (.bool (sameV z z' xs ys)) ∧ Below w.heap.size w w' := by
  have hB : Below w.heap.size w ((w.alloc (.cells #[.int .i64 z, .slice A n c] 31)).alloc (.cells #[.int .i64 z', .slice A' n' c'] 31)) := (by repeat (first | exact Below.refl _ _ | assumption | refine Below.drew ?_ | refine below_drewN ?_ _ | refine Below.alloc ?_ (by first | omega | (simp <;> omega)) _ | refine Below.setCell ?_ (by first | omega | (simp <;> omega)) _))
  by_cases h : z = z'
  · subst h
    have F : Hid (sameV z z xs ys = eqd xs ys) := sameV_in z xs ys
    go_enter Try.func29, Try.ntmps29
    go_wp2_with fail
    with_reducible refine (eqFuncT_any _ _ _ _ _ _ _ _ _ (hr.on hB) (hr'.on hB) hn).mono ?_
    rintro e w1 ⟨rfl, hbw1⟩
    go_wp2
    go_ret
    exact ⟨ret_bool F.out.symm, below_on hbw1 hB⟩
  · have F : Hid (sameV z z' xs ys = false) := sameV_out xs ys h
    have h1 : (z == z') = false := by simpa using h
    clear h
    go_enter Try.func29, Try.ntmps29
    go_wp2
    go_ret
    exact ⟨ret_bool F.out.symm, hB⟩
set_option maxHeartbeats 400000 in
theorem l11SameF_q (A A' : Option Addr) (n c n' c' : Nat) (xs ys : List T3) (w : World) (hr : RdL c3 3 w w.heap.size A n c xs) (hr' : RdL c3 3 w w.heap.size A' n' c' ys) (hn : n ≤ 1048576) :
    Calls Try.prog 130 #[.slice A n c, .slice A' n' c'] w fun e w' => e = .returned (.bool (eqd xs ys)) ∧ ∃ m, w' = w.drewN m := by
  have hl := Lib.hid hr.len
  have hl' := Lib.hid hr'.len
  by_cases hnn : n = n'
  · subst hnn
    go_enter Try.func130, Try.ntmps130
    go_wp2
    go_loopw [5] (fun i wr => ∃ k : Nat, k ≤ n ∧ i = .int .i64 k ∧ Hid (∃ m, wr = w.drewN m) ∧ Hid (xs.take k = ys.take k)) (fun i _ => n - (intOf i).toNat)
    case atStart => exact ⟨0, by omega, rfl, ⟨0, rfl⟩, rfl⟩
    case round =>
      obtain ⟨k, hk, rfl, hb, hw⟩ := hrel
      obtain ⟨m, rfl⟩ := hb.out
      clear hb
      by_cases hlt : k < n
      · obtain ⟨b, off, x, y, d, rfl, hbl, hx, q0, q1, q2⟩ := hr.at3 hlt
        obtain ⟨b', off', x', y', d', rfl, hbl', hx', q0', q1', q2'⟩ := hr'.at3 hlt
        clear hr hr'
        have qn := Try.feNeq
        have qg := Try.feGuard
        go_wp2
        go_quiet (fail)
        clear qn qg
        have HD : Hid (∃ m', w.drewN (m + nq) = w.drewN m') := ⟨m + nq, rfl⟩
        go_wp2
        · go_ret
          exact ⟨ret_bool (eqd_no.2 (ne_at hx.out hx'.out (eqd_no.1 (not_t ‹_›)))).symm, m + nq, by rw [World.drewN_drewN]⟩
        · exact ⟨⟨k + 1, by omega, by go_num, HD, take_eq_step hw.out hx.out hx'.out (eqd_iff.1 (not_f ‹_›))⟩, by simp [intOf]; omega⟩
      · clear hr hr'
        go_wp2
        go_ret
        exact ⟨ret_bool (eqd_iff.2 (eq_end hw.out hl.out hl'.out (by omega))).symm, m, rfl⟩
  · go_enter Try.func130, Try.ntmps130
    go_wp2
    go_ret
    exact ⟨ret_bool (eqd_no.2 (ne_len hl.out hl'.out hnn)).symm, 0, rfl⟩
set_option maxRecDepth 100000 in
set_option maxHeartbeats 4000000 in
theorem l11Same_ptr (z z' : Int) (A A' : Option Addr) (n c n' c' : Nat) (xs ys : List TV) (w : World) (g g' : Nat) (K0 : Cel w g 0 (.int .i64 z)) (K1 : Cel w g 1 (.slice A n c)) (J0 : Cel w g' 0 (.int .i64 z')) (J1 : Cel w g' 1 (.slice A' n' c')) (hr : TL w w.heap.size A n c xs) (hr' : TL w w.heap.size A' n' c' ys) (hn : totT xs ≤ 1048576) :
    Calls Try.prog 85 #[.pointer (some ⟨g, 0, none⟩), .pointer (some ⟨g', 0, none⟩)] w fun e w' => e = .returned (.bool (sameV z z' xs ys)) ∧ Below w.heap.size w w' := by
  have hl := Lib.hid hr.len
  have hl' := Lib.hid hr'.len
  have hcap : n ≤ 9223372036854775807 := Nat.le_trans hr.cap hr.capm
  have hcap' : n' ≤ 9223372036854775807 := Nat.le_trans hr'.cap hr'.capm
  have HN := Lib.hid hn
  clear hn
  have k0 := K0.cell
  have k1 := K1.cell
  have j0 := J0.cell
  have j1 := J1.cell
  have kl := K0.lt
  have jl := J0.lt
  by_cases h : z = z'
  · subst h
    have F : Hid (sameV z z xs ys = eqd xs ys) := sameV_in z xs ys
    by_cases hnn : n = n'
    · subst hnn
      have HR := Lib.hid hr
      have HR' := Lib.hid hr'
      clear hr hr'
      go_enter Try.func85, Try.ntmps85
      go_wp2_with fail
      go_quiet (fail)
      go_wp2_with fail
      go_loopw [5] (fun i wr => ∃ k : Nat, k ≤ n ∧ i = .int .i64 k ∧ Hid (∃ m, wr = w.drewN m) ∧ Hid (xs.take k = ys.take k)) (fun i _ => n - (intOf i).toNat)
      case atStart => exact ⟨0, by omega, rfl, ⟨_, rfl⟩, rfl⟩
      case round =>
        obtain ⟨k, hk, rfl, hb, hw⟩ := hrel
        obtain ⟨m, rfl⟩ := hb.out
        clear hb
        by_cases hlt : k < n
        · obtain ⟨b, off, s, A1, n1, c1, x, rfl, hbl, hx, q0, q1, hx3⟩ := HR.out.at_ hlt
          obtain ⟨b', off', s', A1', n1', c1', x', rfl, hbl', hx', p0, p1, hx4⟩ := HR'.out.at_ hlt
          have hxn : n1 ≤ 1048576 := by have h := (totT_mem hx.out HN.out).2; rw [hx3.len] at h; omega
          have i1 : (k : Int) < (n : Int) := by omega
          have i2 : (0 : Int) ≤ (k : Int) := by omega
          by_cases hs : s = s'
          · subst hs
            have HE : Hid (eqd (s, x) (s, x') = eqd x x') := by unfold Hid; rw [eqd_pair, eqd_iff.2 rfl]; rfl
            cases ht : eqd x x' with
            | true =>
              have HC : ∀ a, Calls Try.prog 130 #[.slice A1 n1 c1, .slice A1' n1' c1'] (w.drewN (m + a)) fun e w' => e = .returned (.bool true) ∧ ∃ m', w' = w.drewN (m + m') := fun a => by
                have h9 := l11SameF_q _ _ _ _ _ _ x x' (w.drewN (m + a)) (hx3.drewN (m + a)) (hx4.drewN (m + a)) hxn
                rw [ht] at h9
                exact h9.mono fun _ _ ⟨he, q, hq⟩ => ⟨he, a + q, by rw [hq, World.drewN_drewN, Nat.add_assoc]⟩
              have H2 := Lib.hid ((eqd_iff.1 (HE.out.trans ht)))
              clear ht hx3 hx4
              go_wp2_with fail
              go_quiet ((go_at_call 130; with_reducible exact HC _))
              go_wp2
              exact ⟨⟨k + 1, by omega, by go_num, ⟨_, rfl⟩, take_eq_step hw.out hx.out hx'.out H2.out⟩, by simp [intOf]; omega⟩
            | false =>
              have HC : ∀ a, Calls Try.prog 130 #[.slice A1 n1 c1, .slice A1' n1' c1'] (w.drewN (m + a)) fun e w' => e = .returned (.bool false) ∧ ∃ m', w' = w.drewN (m + m') := fun a => by
                have h9 := l11SameF_q _ _ _ _ _ _ x x' (w.drewN (m + a)) (hx3.drewN (m + a)) (hx4.drewN (m + a)) hxn
                rw [ht] at h9
                exact h9.mono fun _ _ ⟨he, q, hq⟩ => ⟨he, a + q, by rw [hq, World.drewN_drewN, Nat.add_assoc]⟩
              have F3 : Hid (sameV z z xs ys = false) := by unfold Hid; rw [F.out]; exact eqd_no.2 (ne_at hx.out hx'.out (eqd_no.1 (HE.out.trans ht)))
              clear ht hx3 hx4
              go_wp2_with fail
              go_quiet ((go_at_call 130; with_reducible exact HC _))
              go_wp2
              go_ret
              exact ⟨ret_bool F3.out.symm, below_drewN (below_drewN (Below.refl _ _) _) _⟩
          · have h1 := str_ne hs
            have F3 : Hid (sameV z z xs ys = false) := by unfold Hid; rw [F.out]; exact eqd_no.2 (ne_at hx.out hx'.out (fun e => hs (congrArg Prod.fst e)))
            clear hs hx3 hx4
            go_wp2_with fail
            go_quiet (fail)
            go_wp2
            go_ret
            exact ⟨ret_bool F3.out.symm, below_drewN (below_drewN (Below.refl _ _) _) _⟩
        · go_wp2
          go_ret
          exact ⟨ret_bool (by rw [F.out]; exact (eqd_iff.2 (eq_end hw.out hl.out hl'.out (by omega))).symm), below_drewN (Below.refl _ _) _⟩
    · have F2 : Hid (sameV z z xs ys = false) := by unfold Hid; rw [F.out]; exact eqd_no.2 (ne_len hl.out hl'.out hnn)
      have h5 : ((n : Int) != (n' : Int)) = true := by simp; omega
      clear hr hr'
      go_enter Try.func85, Try.ntmps85
      go_wp2_with fail
      go_quiet (fail)
      go_wp2
      go_ret
      exact ⟨ret_bool F2.out.symm, below_drewN (Below.refl _ _) _⟩
  · have F : Hid (sameV z z' xs ys = false) := sameV_out xs ys h
    have h1 : (z != z') = true := by simpa using h
    clear h hr hr'
    go_enter Try.func85, Try.ntmps85
    go_wp2_with fail
    go_quiet (fail)
    go_wp2
    go_ret
    exact ⟨ret_bool F.out.symm, below_drewN (Below.refl _ _) _⟩
theorem sSameStore_any (z z' : Int) (A A' : Option Addr) (n c n' c' : Nat) (xs ys : List TV) (w : World) (hr : TL w w.heap.size A n c xs) (hr' : TL w w.heap.size A' n' c' ys) (hn : totT xs ≤ 1048576) :
    Calls Try.prog 28 #[.agg #[.int .i64 z, .slice A n c], .agg #[.int .i64 z', .slice A' n' c']] w fun e w' => e = .returned (.bool (sameV z z' xs ys)) ∧ Below w.heap.size w w' := by
  go_enter Try.func28, Try.ntmps28
  go_wp2_with fail
  have hB : Below w.heap.size w ((w.alloc (.cells #[.int .i64 z, .slice A n c] 31)).alloc (.cells #[.int .i64 z', .slice A' n' c'] 31)) := (by repeat (first | exact Below.refl _ _ | assumption | refine Below.drew ?_ | refine below_drewN ?_ _ | refine Below.alloc ?_ (by first | omega | (simp <;> omega)) _ | refine Below.setCell ?_ (by first | omega | (simp <;> omega)) _))
  have K0 := (Blk.new w 31 #[.int .i64 z, .slice A n c]).alloc (.cells #[.int .i64 z', .slice A' n' c'] 31)
  have J0 : Blk ((w.alloc (.cells #[.int .i64 z, .slice A n c] 31)).alloc (.cells #[.int .i64 z', .slice A' n' c'] 31)) (w.heap.size + 1) 31 #[.int .i64 z', .slice A' n' c'] := by have h := Blk.new (w.alloc (.cells #[.int .i64 z, .slice A n c] 31)) 31 #[.int .i64 z', .slice A' n' c']; simpa using h
  generalize (w.alloc (.cells #[.int .i64 z, .slice A n c] 31)).alloc (.cells #[.int .i64 z', .slice A' n' c'] 31) = v at *
  with_reducible refine (l11Same_ptr z z' A A' n c n' c' xs ys _ _ _ (Blk.at2 K0).1 (Blk.at2 K0).2 (Blk.at2 J0).1 (Blk.at2 J0).2 (hr.on hB) (hr'.on hB) hn).mono ?_
  rintro e w1 ⟨rfl, hb1⟩
  go_wp2
  go_ret
  exact ⟨rfl, below_on hb1 hB⟩
end Go.Proofs.Ytammapaockmjkaa
