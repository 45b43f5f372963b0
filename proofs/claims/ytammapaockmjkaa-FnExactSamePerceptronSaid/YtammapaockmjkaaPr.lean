/- Equal perceptrons: the program's and the reference's; perceptrons in the laws. -/
import Derived.Test.YtammapaockmjkaaMn
import Derived.Test.YtammapaockmjkaaFlStr
import Derived.Test.YtammapaockmjkaaBx
import Derived.Deep.RegionHeld3
import Derived.Deep.QuietTactic
import Derived.BigQuiet
namespace Go.Proofs.Ytammapaockmjkaa
open Go.ChangeShapes Go.WideShapes Go.ChangeAt Go.RowKit Go.Deep Go.Joins
set_option linter.unusedVariables false
set_option linter.unusedSimpArgs false
def sameP (ls ls' : List ByteArray) (ws ws' : List (List Int)) : Bool := eqd ls ls' && eqd ws ws'
theorem sameP_in {ls ls' : List ByteArray} (h : eqd ls ls' = true) (ws ws' : List (List Int)) : sameP ls ls' ws ws' = eqd ws ws' := by unfold sameP; rw [h]; rfl
theorem sameP_out {ls ls' : List ByteArray} (h : eqd ls ls' = false) (ws ws' : List (List Int)) : sameP ls ls' ws ws' = false := by unfold sameP; rw [h]; rfl
theorem sameP_out2 {ws ws' : List (List Int)} (ls ls' : List ByteArray) (h : eqd ws ws' = false) : sameP ls ls' ws ws' = false := by unfold sameP; rw [h, Bool.and_false]
set_option maxHeartbeats 1000000 in
theorem slEqStr_q (A A' : Option Addr) (n c n' c' : Nat) (xs ys : List ByteArray) (w : World) (hr : RdL cs1 1 w w.heap.size A n c xs) (hr' : RdL cs1 1 w w.heap.size A' n' c' ys) (hn : n ≤ 1048576) :
    Calls Try.prog 81 #[.slice A n c, .slice A' n' c'] w fun e w' => e = .returned (.bool (eqd xs ys)) ∧ ∃ m, w' = w.drewN m := by
  have hl := Lib.hid hr.len
  have hl' := Lib.hid hr'.len
  by_cases hnn : n = n'
  · subst hnn
    go_enter Try.func81, Try.ntmps81
    go_wp2
    go_loopw [13] (fun i wr => ∃ k : Nat, k ≤ n ∧ i = .int .i64 k ∧ Hid (∃ m, wr = w.drewN m) ∧ Hid (xs.take k = ys.take k)) (fun i _ => n - (intOf i).toNat)
    case atStart => exact ⟨0, by omega, rfl, ⟨0, rfl⟩, rfl⟩
    case round =>
      obtain ⟨k, hk, rfl, hb, hw⟩ := hrel
      obtain ⟨m, rfl⟩ := hb.out
      clear hb
      by_cases hlt : k < n
      · obtain ⟨b, off, x, rfl, hbl, hx, q0⟩ := hr.atS hlt
        obtain ⟨b', off', x', rfl, hbl', hx', q0'⟩ := hr'.atS hlt
        clear hr hr'
        by_cases he : x = x'
        · subst he
          go_wp2
          go_quiet (fail)
          have HD : Hid (∃ m', w.drewN (m + nq) = w.drewN m') := ⟨m + nq, rfl⟩
          go_wp2
          exact ⟨⟨k + 1, by omega, by go_num, HD, take_eq_step hw.out hx.out hx'.out rfl⟩, by simp [intOf]; omega⟩
        · have F : Hid (eqd xs ys = false) := eqd_no.2 (ne_at hx.out hx'.out he)
          have h1 := str_ne he; have h2 : (x.toList == x'.toList) = false := by simpa using h1
          clear he
          go_wp2
          go_quiet (fail)
          go_wp2
          go_ret
          exact ⟨ret_bool F.out.symm, m + nq, by rw [World.drewN_drewN]⟩
      · clear hr hr'
        go_wp2
        go_ret
        exact ⟨ret_bool (eqd_iff.2 (eq_end hw.out hl.out hl'.out (by omega))).symm, m, rfl⟩
  · have F : Hid (eqd xs ys = false) := eqd_no.2 (ne_len hl.out hl'.out hnn)
    have h5 : ((n : Int) != (n' : Int)) = true := by simp; omega
    clear hnn
    go_enter Try.func81, Try.ntmps81
    go_wp2
    go_ret
    exact ⟨ret_bool F.out.symm, 0, rfl⟩
set_option maxHeartbeats 1000000 in
theorem slEqInt_q (A A' : Option Addr) (n c n' c' : Nat) (xs ys : List Int) (w : World) (hr : RdL c1 1 w w.heap.size A n c xs) (hr' : RdL c1 1 w w.heap.size A' n' c' ys) (hn : n ≤ 1048576) :
    Calls Try.prog 83 #[.slice A n c, .slice A' n' c'] w fun e w' => e = .returned (.bool (eqd xs ys)) ∧ ∃ m, w' = w.drewN m := by
  have hl := Lib.hid hr.len
  have hl' := Lib.hid hr'.len
  by_cases hnn : n = n'
  · subst hnn
    go_enter Try.func83, Try.ntmps83
    go_wp2
    go_loopw [13] (fun i wr => ∃ k : Nat, k ≤ n ∧ i = .int .i64 k ∧ Hid (∃ m, wr = w.drewN m) ∧ Hid (xs.take k = ys.take k)) (fun i _ => n - (intOf i).toNat)
    case atStart => exact ⟨0, by omega, rfl, ⟨0, rfl⟩, rfl⟩
    case round =>
      obtain ⟨k, hk, rfl, hb, hw⟩ := hrel
      obtain ⟨m, rfl⟩ := hb.out
      clear hb
      by_cases hlt : k < n
      · obtain ⟨b, off, x, rfl, hbl, hx, q0⟩ := hr.at1 hlt
        obtain ⟨b', off', x', rfl, hbl', hx', q0'⟩ := hr'.at1 hlt
        clear hr hr'
        by_cases he : x = x'
        · subst he
          go_wp2
          go_quiet (fail)
          have HD : Hid (∃ m', w.drewN (m + nq) = w.drewN m') := ⟨m + nq, rfl⟩
          go_wp2
          exact ⟨⟨k + 1, by omega, by go_num, HD, take_eq_step hw.out hx.out hx'.out rfl⟩, by simp [intOf]; omega⟩
        · have F : Hid (eqd xs ys = false) := eqd_no.2 (ne_at hx.out hx'.out he)
          have h1 : (x != x') = true := by simpa using he
          clear he
          go_wp2
          go_quiet (fail)
          go_wp2
          go_ret
          exact ⟨ret_bool F.out.symm, m + nq, by rw [World.drewN_drewN]⟩
      · clear hr hr'
        go_wp2
        go_ret
        exact ⟨ret_bool (eqd_iff.2 (eq_end hw.out hl.out hl'.out (by omega))).symm, m, rfl⟩
  · have F : Hid (eqd xs ys = false) := eqd_no.2 (ne_len hl.out hl'.out hnn)
    have h5 : ((n : Int) != (n' : Int)) = true := by simp; omega
    clear hnn
    go_enter Try.func83, Try.ntmps83
    go_wp2
    go_ret
    exact ⟨ret_bool F.out.symm, 0, rfl⟩
set_option maxHeartbeats 1000000 in
theorem l00Same_q (A A' : Option Addr) (n c n' c' : Nat) (xs ys : List Int) (w : World) (hr : RdL c1 1 w w.heap.size A n c xs) (hr' : RdL c1 1 w w.heap.size A' n' c' ys) (hn : n ≤ 1048576) :
    Calls Try.prog 78 #[.slice A n c, .slice A' n' c'] w fun e w' => e = .returned (.bool (eqd xs ys)) ∧ ∃ m, w' = w.drewN m := by
  have hl := Lib.hid hr.len
  have hl' := Lib.hid hr'.len
  by_cases hnn : n = n'
  · subst hnn
    go_enter Try.func78, Try.ntmps78
    go_wp2
    go_loopw [5] (fun i wr => ∃ k : Nat, k ≤ n ∧ i = .int .i64 k ∧ Hid (∃ m, wr = w.drewN m) ∧ Hid (xs.take k = ys.take k)) (fun i _ => n - (intOf i).toNat)
    case atStart => exact ⟨0, by omega, rfl, ⟨0, rfl⟩, rfl⟩
    case round =>
      obtain ⟨k, hk, rfl, hb, hw⟩ := hrel
      obtain ⟨m, rfl⟩ := hb.out
      clear hb
      by_cases hlt : k < n
      · obtain ⟨b, off, x, rfl, hbl, hx, q0⟩ := hr.at1 hlt
        obtain ⟨b', off', x', rfl, hbl', hx', q0'⟩ := hr'.at1 hlt
        clear hr hr'
        by_cases he : x = x'
        · subst he
          go_wp2
          go_quiet (fail)
          have HD : Hid (∃ m', w.drewN (m + nq) = w.drewN m') := ⟨m + nq, rfl⟩
          go_wp2
          exact ⟨⟨k + 1, by omega, by go_num, HD, take_eq_step hw.out hx.out hx'.out rfl⟩, by simp [intOf]; omega⟩
        · have F : Hid (eqd xs ys = false) := eqd_no.2 (ne_at hx.out hx'.out he)
          have h1 : (x != x') = true := by simpa using he
          clear he
          go_wp2
          go_quiet (fail)
          go_wp2
          go_ret
          exact ⟨ret_bool F.out.symm, m + nq, by rw [World.drewN_drewN]⟩
      · clear hr hr'
        go_wp2
        go_ret
        exact ⟨ret_bool (eqd_iff.2 (eq_end hw.out hl.out hl'.out (by omega))).symm, m, rfl⟩
  · have F : Hid (eqd xs ys = false) := eqd_no.2 (ne_len hl.out hl'.out hnn)
    have h5 : ((n : Int) != (n' : Int)) = true := by simp; omega
    clear hnn
    go_enter Try.func78, Try.ntmps78
    go_wp2
    go_ret
    exact ⟨ret_bool F.out.symm, 0, rfl⟩
set_option maxHeartbeats 1000000 in
theorem eqFuncI_any (A A' : Option Addr) (n c n' c' : Nat) (xs ys : List (List Int)) (w : World) (hr : ML w w.heap.size A n c xs) (hr' : ML w w.heap.size A' n' c' ys) (hn : totM xs ≤ 1048576) :
    Calls Try.prog 82 #[.slice A n c, .slice A' n' c', .func (.func 83) #[] #[]] w fun e w' => e = .returned (.bool (eqd xs ys)) ∧ Below w.heap.size w w' := by
  have hl := Lib.hid hr.len
  have hl' := Lib.hid hr'.len
  have hcap : n ≤ 9223372036854775807 := Nat.le_trans hr.cap hr.capm
  have HN := Lib.hid hn
  clear hn
  by_cases hnn : n = n'
  · subst hnn
    go_enter Try.func82, Try.ntmps82
    go_wp2_with fail
    go_loopw [17] (fun i wr => ∃ k : Nat, k ≤ n ∧ i = .int .i64 k ∧ Below w.heap.size w wr ∧ Hid (xs.take k = ys.take k)) (fun i _ => n - (intOf i).toNat)
    case atStart => exact ⟨0, by omega, rfl, Below.refl _ _, rfl⟩
    case round =>
      obtain ⟨k, hk, rfl, hb, hw⟩ := hrel
      by_cases hlt : k < n
      · obtain ⟨b, off, A1, n1, c1, x, rfl, hbl, hx, q0, hx3⟩ := (hr.on hb).at_ hlt
        obtain ⟨b', off', A1', n1', c1', x', rfl, hbl', hx', p0, hx4⟩ := (hr'.on hb).at_ hlt
        have hxn : n1 ≤ 1048576 := by have h := totM_at hx.out; rw [hx3.len] at h; have := HN.out; omega
        have HX3 := Lib.hid hx3
        have HX4 := Lib.hid hx4
        have i1 : (k : Int) < (n : Int) := by omega
        have i2 : (0 : Int) ≤ (k : Int) := by omega
        clear hr hr' hx3 hx4
        cases ht : eqd x x' with
        | true =>
          have HT := Lib.hid ht
          clear ht
          go_wp2_with fail
          with_reducible refine (slEqInt_q _ _ _ _ _ _ x x' _ HX3.out HX4.out hxn).mono ?_
          rintro e w1 ⟨rfl, m, rfl⟩
          rw [HT.out]
          have hb3 : Below w.heap.size w (wr.drewN m) := below_drewN hb _
          go_wp2
          exact ⟨⟨k + 1, by omega, by go_num, hb3, take_eq_step hw.out hx.out hx'.out (eqd_iff.1 HT.out)⟩, by simp [intOf]; omega⟩
        | false =>
          have HT := Lib.hid ht
          clear ht
          go_wp2_with fail
          with_reducible refine (slEqInt_q _ _ _ _ _ _ x x' _ HX3.out HX4.out hxn).mono ?_
          rintro e w1 ⟨rfl, m, rfl⟩
          rw [HT.out]
          have hb3 : Below w.heap.size w (wr.drewN m) := below_drewN hb _
          go_wp2
          go_ret
          exact ⟨ret_bool (eqd_no.2 (ne_at hx.out hx'.out (eqd_no.1 HT.out))).symm, hb3⟩
      · clear hr hr'
        go_wp2
        go_ret
        exact ⟨ret_bool (eqd_iff.2 (eq_end hw.out hl.out hl'.out (by omega))).symm, hb⟩
  · have F : Hid (eqd xs ys = false) := eqd_no.2 (ne_len hl.out hl'.out hnn)
    have h5 : ((n : Int) != (n' : Int)) = true := by simp; omega
    clear hnn
    go_enter Try.func82, Try.ntmps82
    go_wp2
    go_ret
    exact ⟨ret_bool F.out.symm, Below.refl _ _⟩
set_option maxHeartbeats 1000000 in
theorem iSamePer_any (A A' : Option Addr) (n c n' c' : Nat) (B B' : Option Addr) (m d m' d' : Nat) (ls ls' : List ByteArray) (ws ws' : List (List Int)) (w : World) (hr : RdL cs1 1 w w.heap.size A n c ls) (hr' : RdL cs1 1 w w.heap.size A' n' c' ls') (hs : ML w w.heap.size B m d ws) (hs' : ML w w.heap.size B' m' d' ws') (hn : n ≤ 1048576) (hm : totM ws ≤ 1048576) :
    Calls Try.prog 26 #[.agg #[.slice A n c, .slice B m d], .agg #[.slice A' n' c', .slice B' m' d']] w fun e w' => e = .returned (.bool (sameP ls ls' ws ws')) ∧ Below w.heap.size w w' := by
  have HM := Lib.hid hm
  clear hm
  cases h : eqd ls ls' with
  | true =>
    have F := Lib.hid (sameP_in h ws ws')
    have H := Lib.hid h
    clear h
    go_enter Try.func26, Try.ntmps26
    go_wp2_with fail
    have K0 : Blk ((w.alloc (.cells #[.slice A n c, .slice B m d] 44)).alloc (.cells #[.slice A' n' c', .slice B' m' d'] 44)) (w.heap.size) 44 #[.slice A n c, .slice B m d] := by have hk := (Blk.new w 44 #[.slice A n c, .slice B m d]).alloc (.cells #[.slice A' n' c', .slice B' m' d'] 44); simpa using hk
    have J0 : Blk ((w.alloc (.cells #[.slice A n c, .slice B m d] 44)).alloc (.cells #[.slice A' n' c', .slice B' m' d'] 44)) (w.heap.size + 1) 44 #[.slice A' n' c', .slice B' m' d'] := by have hk := Blk.new (w.alloc (.cells #[.slice A n c, .slice B m d] 44)) 44 #[.slice A' n' c', .slice B' m' d']; simpa using hk
    have hbv : Below w.heap.size w ((w.alloc (.cells #[.slice A n c, .slice B m d] 44)).alloc (.cells #[.slice A' n' c', .slice B' m' d'] 44)) := (by repeat (first | exact Below.refl _ _ | assumption | refine Below.drew ?_ | refine below_drewN ?_ _ | refine Below.alloc ?_ (by first | omega | (simp <;> omega)) _ | refine Below.setCell ?_ (by first | omega | (simp <;> omega)) _))
    replace hr := hr.on hbv
    replace hr' := hr'.on hbv
    replace hs := hs.on hbv
    replace hs' := hs'.on hbv
    generalize ((w.alloc (.cells #[.slice A n c, .slice B m d] 44)).alloc (.cells #[.slice A' n' c', .slice B' m' d'] 44)) = v at *
    with_reducible refine (slEqStr_q _ _ _ _ _ _ ls ls' _ hr hr' hn).mono ?_
    rintro e w1 ⟨rfl, q, rfl⟩
    rw [H.out]
    have k0 := K0.cell 0
    have k1 := K0.cell 1
    simp only [List.getElem?_toArray, List.getElem?_cons_succ, List.getElem?_cons_zero] at k0 k1
    have j0 := J0.cell 0
    have j1 := J0.cell 1
    simp only [List.getElem?_toArray, List.getElem?_cons_succ, List.getElem?_cons_zero] at j0 j1
    have zk := K0.lt
    have zj := J0.lt
    go_wp2_with fail
    with_reducible refine (eqFuncI_any _ _ _ _ _ _ ws ws' _ (hs.drewN q) (hs'.drewN q) HM.out).mono ?_
    rintro e w2 ⟨rfl, hb2⟩
    clear k0 k1 j0 j1
    go_wp2
    go_ret
    exact ⟨ret_bool F.out.symm, below_on hb2 (below_drewN hbv q)⟩
  | false =>
    have F := Lib.hid (sameP_out h ws ws')
    have H := Lib.hid h
    clear h
    go_enter Try.func26, Try.ntmps26
    go_wp2_with fail
    have K0 : Blk ((w.alloc (.cells #[.slice A n c, .slice B m d] 44)).alloc (.cells #[.slice A' n' c', .slice B' m' d'] 44)) (w.heap.size) 44 #[.slice A n c, .slice B m d] := by have hk := (Blk.new w 44 #[.slice A n c, .slice B m d]).alloc (.cells #[.slice A' n' c', .slice B' m' d'] 44); simpa using hk
    have J0 : Blk ((w.alloc (.cells #[.slice A n c, .slice B m d] 44)).alloc (.cells #[.slice A' n' c', .slice B' m' d'] 44)) (w.heap.size + 1) 44 #[.slice A' n' c', .slice B' m' d'] := by have hk := Blk.new (w.alloc (.cells #[.slice A n c, .slice B m d] 44)) 44 #[.slice A' n' c', .slice B' m' d']; simpa using hk
    have hbv : Below w.heap.size w ((w.alloc (.cells #[.slice A n c, .slice B m d] 44)).alloc (.cells #[.slice A' n' c', .slice B' m' d'] 44)) := (by repeat (first | exact Below.refl _ _ | assumption | refine Below.drew ?_ | refine below_drewN ?_ _ | refine Below.alloc ?_ (by first | omega | (simp <;> omega)) _ | refine Below.setCell ?_ (by first | omega | (simp <;> omega)) _))
    replace hr := hr.on hbv
    replace hr' := hr'.on hbv
    replace hs := hs.on hbv
    replace hs' := hs'.on hbv
    generalize ((w.alloc (.cells #[.slice A n c, .slice B m d] 44)).alloc (.cells #[.slice A' n' c', .slice B' m' d'] 44)) = v at *
    with_reducible refine (slEqStr_q _ _ _ _ _ _ ls ls' _ hr hr' hn).mono ?_
    rintro e w1 ⟨rfl, q, rfl⟩
    rw [H.out]
    go_wp2
    go_ret
    exact ⟨ret_bool F.out.symm, below_drewN hbv q⟩
set_option maxRecDepth 100000 in
set_option maxHeartbeats 4000000 in
theorem sSamePer_any (A A' : Option Addr) (n c n' c' : Nat) (B B' : Option Addr) (m d m' d' : Nat) (ls ls' : List ByteArray) (ws ws' : List (List Int)) (w : World) (hr : RdL cs1 1 w w.heap.size A n c ls) (hr' : RdL cs1 1 w w.heap.size A' n' c' ls') (hs : ML w w.heap.size B m d ws) (hs' : ML w w.heap.size B' m' d' ws') (hn : n ≤ 1048576) (hm : totM ws ≤ 1048576) :
    Calls Try.prog 24 #[.agg #[.slice A n c, .slice B m d], .agg #[.slice A' n' c', .slice B' m' d']] w fun e w' => e = .returned (.bool (sameP ls ls' ws ws')) ∧ Below w.heap.size w w' := by
  have hl := Lib.hid hr.len
  have hl' := Lib.hid hr'.len
  have gl := Lib.hid hs.len
  have gl' := Lib.hid hs'.len
  have HM := Lib.hid hm
  have mcap : m ≤ 9223372036854775807 := Nat.le_trans hs.cap hs.capm
  clear hm
  by_cases hnn : n = n'
  · subst hnn
    by_cases hmm : m = m'
    · subst hmm
      go_enter Try.func24, Try.ntmps24
      go_wp2_with fail
      have K0 : Blk ((w.alloc (.cells #[.slice A n c, .slice B m d] 44)).alloc (.cells #[.slice A' n c', .slice B' m d'] 44)) (w.heap.size) 44 #[.slice A n c, .slice B m d] := by have hk := (Blk.new w 44 #[.slice A n c, .slice B m d]).alloc (.cells #[.slice A' n c', .slice B' m d'] 44); simpa using hk
      have J0 : Blk ((w.alloc (.cells #[.slice A n c, .slice B m d] 44)).alloc (.cells #[.slice A' n c', .slice B' m d'] 44)) (w.heap.size + 1) 44 #[.slice A' n c', .slice B' m d'] := by have hk := Blk.new (w.alloc (.cells #[.slice A n c, .slice B m d] 44)) 44 #[.slice A' n c', .slice B' m d']; simpa using hk
      have hbv : Below w.heap.size w ((w.alloc (.cells #[.slice A n c, .slice B m d] 44)).alloc (.cells #[.slice A' n c', .slice B' m d'] 44)) := (by repeat (first | exact Below.refl _ _ | assumption | refine Below.drew ?_ | refine below_drewN ?_ _ | refine Below.alloc ?_ (by first | omega | (simp <;> omega)) _ | refine Below.setCell ?_ (by first | omega | (simp <;> omega)) _))
      replace hr := hr.on hbv
      replace hr' := hr'.on hbv
      replace hs := hs.on hbv
      replace hs' := hs'.on hbv
      generalize ((w.alloc (.cells #[.slice A n c, .slice B m d] 44)).alloc (.cells #[.slice A' n c', .slice B' m d'] 44)) = v at *
      have k0 := K0.cell 0
      have k1 := K0.cell 1
      simp only [List.getElem?_toArray, List.getElem?_cons_succ, List.getElem?_cons_zero] at k0 k1
      have j0 := J0.cell 0
      have j1 := J0.cell 1
      simp only [List.getElem?_toArray, List.getElem?_cons_succ, List.getElem?_cons_zero] at j0 j1
      have zk := K0.lt
      have zj := J0.lt
      have HS := Lib.hid hs
      have HS' := Lib.hid hs'
      clear hs hs' K0 J0
      go_loopw [5] (fun i wr => ∃ k : Nat, k ≤ n ∧ i = .int .i64 k ∧ Hid (∃ q, wr = v.drewN q) ∧ Hid (ls.take k = ls'.take k)) (fun i _ => n - (intOf i).toNat)
      case atStart => exact ⟨0, by omega, rfl, ⟨0, rfl⟩, rfl⟩
      case round =>
        obtain ⟨k, hk, rfl, hb, hw⟩ := hrel
        obtain ⟨q, rfl⟩ := hb.out
        clear hb
        by_cases hlt : k < n
        · obtain ⟨b, off, x, rfl, hbl, hx, q0⟩ := hr.atS hlt
          obtain ⟨b', off', x', rfl, hbl', hx', q0'⟩ := hr'.atS hlt
          clear hr hr'
          have i1 : (k : Int) < (n : Int) := by omega
          have i2 : (0 : Int) ≤ (k : Int) := by omega
          by_cases he : x = x'
          · subst he
            go_wp2
            go_quiet (fail)
            have HD : Hid (∃ m', v.drewN (q + nq) = v.drewN m') := ⟨q + nq, rfl⟩
            go_wp2
            exact ⟨⟨k + 1, by omega, by go_num, HD, take_eq_step hw.out hx.out hx'.out rfl⟩, by simp [intOf]; omega⟩
          · have F : Hid (sameP ls ls' ws ws' = false) := sameP_out (eqd_no.2 (ne_at hx.out hx'.out he)) ws ws'
            have h1 := str_ne he
            have h2 : (x.toList == x'.toList) = false := by simpa using h1
            clear he
            go_wp2
            go_quiet (fail)
            go_wp2
            go_ret
            exact ⟨ret_bool F.out.symm, below_drewN (below_drewN hbv _) _⟩
        · have F : Hid (sameP ls ls' ws ws' = eqd ws ws') := sameP_in (eqd_iff.2 (eq_end hw.out hl.out hl'.out (by omega))) ws ws'
          clear hr hr' hw
          go_wp2_with fail
          go_loopw [6] (fun i wr => ∃ k : Nat, k ≤ m ∧ i = .int .i64 k ∧ Hid (∃ q, wr = v.drewN q) ∧ Hid (ws.take k = ws'.take k)) (fun i _ => m - (intOf i).toNat)
          case atStart => exact ⟨0, by omega, rfl, ⟨q, rfl⟩, rfl⟩
          case round =>
            obtain ⟨k2, hk2, rfl, hb, hw⟩ := hrel
            obtain ⟨q2, rfl⟩ := hb.out
            clear hb
            by_cases hlt2 : k2 < m
            · obtain ⟨b, off, A1, n1, c1, x, rfl, hbl, hx, q0, hx3⟩ := HS.out.at_ hlt2
              obtain ⟨b', off', A1', n1', c1', x', rfl, hbl', hx', p0, hx4⟩ := HS'.out.at_ hlt2
              have hxn : n1 ≤ 1048576 := by have h := totM_at hx.out; rw [hx3.len] at h; have := HM.out; omega
              have i1 : (k2 : Int) < (m : Int) := by omega
              have i2 : (0 : Int) ≤ (k2 : Int) := by omega
              cases ht : eqd x x' with
              | true =>
                have HC : ∀ a, Calls Try.prog 78 #[.slice A1 n1 c1, .slice A1' n1' c1'] (v.drewN (q2 + a)) fun e w' => e = .returned (.bool true) ∧ ∃ m', w' = v.drewN (q2 + m') := fun a => by
                  have h9 := l00Same_q _ _ _ _ _ _ x x' (v.drewN (q2 + a)) (hx3.drewN (q2 + a)) (hx4.drewN (q2 + a)) hxn
                  rw [ht] at h9
                  exact h9.mono fun _ _ ⟨he, p, hp⟩ => ⟨he, a + p, by rw [hp, World.drewN_drewN, Nat.add_assoc]⟩
                have H2 := Lib.hid (eqd_iff.1 ht)
                clear ht hx3 hx4
                go_wp2_with fail
                go_quiet ((go_at_call 78; with_reducible exact HC _))
                go_wp2
                exact ⟨⟨k2 + 1, by omega, by go_num, ⟨_, rfl⟩, take_eq_step hw.out hx.out hx'.out H2.out⟩, by simp [intOf]; omega⟩
              | false =>
                have HC : ∀ a, Calls Try.prog 78 #[.slice A1 n1 c1, .slice A1' n1' c1'] (v.drewN (q2 + a)) fun e w' => e = .returned (.bool false) ∧ ∃ m', w' = v.drewN (q2 + m') := fun a => by
                  have h9 := l00Same_q _ _ _ _ _ _ x x' (v.drewN (q2 + a)) (hx3.drewN (q2 + a)) (hx4.drewN (q2 + a)) hxn
                  rw [ht] at h9
                  exact h9.mono fun _ _ ⟨he, p, hp⟩ => ⟨he, a + p, by rw [hp, World.drewN_drewN, Nat.add_assoc]⟩
                have F3 : Hid (sameP ls ls' ws ws' = false) := sameP_out2 ls ls' (eqd_no.2 (ne_at hx.out hx'.out (eqd_no.1 ht)))
                clear ht hx3 hx4
                go_wp2_with fail
                go_quiet ((go_at_call 78; with_reducible exact HC _))
                go_wp2
                go_ret
                exact ⟨ret_bool F3.out.symm, below_drewN (below_drewN hbv _) _⟩
            · go_wp2
              go_ret
              exact ⟨ret_bool (by rw [F.out]; exact (eqd_iff.2 (eq_end hw.out gl.out gl'.out (by omega))).symm), below_drewN hbv _⟩
    · have F : Hid (sameP ls ls' ws ws' = false) := sameP_out2 ls ls' (eqd_no.2 (ne_len gl.out gl'.out hmm))
      have h5 : ((m : Int) != (m' : Int)) = true := by simp; omega
      clear hmm hr hr' hs hs'
      go_enter Try.func24, Try.ntmps24
      go_wp2
      go_ret
      exact ⟨ret_bool F.out.symm, (by repeat (first | exact Below.refl _ _ | assumption | refine Below.drew ?_ | refine below_drewN ?_ _ | refine Below.alloc ?_ (by first | omega | (simp <;> omega)) _ | refine Below.setCell ?_ (by first | omega | (simp <;> omega)) _))⟩
  · have F : Hid (sameP ls ls' ws ws' = false) := sameP_out (eqd_no.2 (ne_len hl.out hl'.out hnn)) ws ws'
    have h5 : ((n : Int) != (n' : Int)) = true := by simp; omega
    clear hnn hr hr' hs hs'
    go_enter Try.func24, Try.ntmps24
    go_wp2
    go_ret
    exact ⟨ret_bool F.out.symm, (by repeat (first | exact Below.refl _ _ | assumption | refine Below.drew ?_ | refine below_drewN ?_ _ | refine Below.alloc ?_ (by first | omega | (simp <;> omega)) _ | refine Below.setCell ?_ (by first | omega | (simp <;> omega)) _))⟩
theorem szPer_yes (A : Option Addr) (n c : Nat) (B : Option Addr) (m d : Nat) (ls : List ByteArray) (ws : List (List Int)) (left : Int) (w : World) (hr : RdL cs1 1 w w.heap.size A n c ls) (hg : ∀ x ∈ ls, x.size ≤ maxLen) (hs : ML w w.heap.size B m d ws) (h0 : 0 ≤ left) (h1 : left ≤ 1048576) (h : (totS ls : Int) + totM ws ≤ left) :
    Calls Try.prog 23 #[.agg #[.slice A n c, .slice B m d], .int .i64 left] w fun e w' => e = .returned (.int .i64 (left - totS ls - totM ws)) ∧ Below w.heap.size w w' := by
  have F : Hid (szS ls left = left - totS ls) := szS_yes (by omega)
  have F2 : Hid (szM ws (left - totS ls) = left - totS ls - totM ws) := szM_yes (by omega)
  have o1 : ¬ left - (totS ls : Int) < 0 := by omega
  have o2 : ¬ left - (totS ls : Int) - (totM ws : Int) < 0 := by omega
  have HG := Lib.hid hg
  clear hg
  go_enter Try.func23, Try.ntmps23
  go_wp2_with fail
  have K0 := Blk.new (w) 41 #[.slice A n c, .slice B m d]
  have hbv : Below (w).heap.size (w) ((w).alloc (.cells #[.slice A n c, .slice B m d] 41)) := (Below.refl _ _).alloc (Nat.le_refl _) _
  replace hr := hr.on hbv
  replace hs := hs.on hbv
  generalize (w).alloc (.cells #[.slice A n c, .slice B m d] 41) = v at *
  with_reducible refine (szStringS_any _ _ _ ls _ _ hr HG.out h0 h1).mono ?_
  rw [F.out]
  rintro e w1 ⟨rfl, hb1⟩
  replace K0 := K0.on hb1
  replace hs := hs.on hb1
  have k0 := K0.cell 0
  have k1 := K0.cell 1
  simp only [List.getElem?_toArray, List.getElem?_cons_succ, List.getElem?_cons_zero] at k0 k1
  have zk := K0.lt
  go_wp2_with fail
  with_reducible refine (szInt64SS_any _ _ _ ws _ _ hs (by omega) (by omega)).mono ?_
  rw [F2.out]
  rintro e w2 ⟨rfl, hb2⟩
  clear k0 k1
  go_wp2
  go_ret
  exact ⟨rfl, below_on hb2 (below_on hb1 hbv)⟩
theorem szPer_no (A : Option Addr) (n c : Nat) (B : Option Addr) (m d : Nat) (ls : List ByteArray) (ws : List (List Int)) (left : Int) (w : World) (hr : RdL cs1 1 w w.heap.size A n c ls) (hg : ∀ x ∈ ls, x.size ≤ maxLen) (hs : ML w w.heap.size B m d ws) (h0 : 0 ≤ left) (h1 : left ≤ 1048576) (h : left < (totS ls : Int) + totM ws) :
    Calls Try.prog 23 #[.agg #[.slice A n c, .slice B m d], .int .i64 left] w fun e w' => e = .returned (.int .i64 (-1)) ∧ Below w.heap.size w w' := by
  have HG := Lib.hid hg
  clear hg
  by_cases hf : (totS ls : Int) ≤ left
  · have F : Hid (szS ls left = left - totS ls) := szS_yes (by omega)
    have F2 : Hid (szM ws (left - totS ls) = -1) := szM_no (by omega)
    have o1 : ¬ left - (totS ls : Int) < 0 := by omega
    go_enter Try.func23, Try.ntmps23
    go_wp2_with fail
    have K0 := Blk.new (w) 41 #[.slice A n c, .slice B m d]
    have hbv : Below (w).heap.size (w) ((w).alloc (.cells #[.slice A n c, .slice B m d] 41)) := (Below.refl _ _).alloc (Nat.le_refl _) _
    replace hr := hr.on hbv
    replace hs := hs.on hbv
    generalize (w).alloc (.cells #[.slice A n c, .slice B m d] 41) = v at *
    with_reducible refine (szStringS_any _ _ _ ls _ _ hr HG.out h0 h1).mono ?_
    rw [F.out]
    rintro e w1 ⟨rfl, hb1⟩
    replace K0 := K0.on hb1
    replace hs := hs.on hb1
    have k0 := K0.cell 0
    have k1 := K0.cell 1
    simp only [List.getElem?_toArray, List.getElem?_cons_succ, List.getElem?_cons_zero] at k0 k1
    have zk := K0.lt
    go_wp2_with fail
    with_reducible refine (szInt64SS_any _ _ _ ws _ _ hs (by omega) (by omega)).mono ?_
    rw [F2.out]
    rintro e w2 ⟨rfl, hb2⟩
    clear k0 k1
    go_wp2
    go_ret
    exact ⟨rfl, below_on hb2 (below_on hb1 hbv)⟩
  · have F : Hid (szS ls left = -1) := szS_no (by omega)
    go_enter Try.func23, Try.ntmps23
    go_wp2_with fail
    have K0 := Blk.new (w) 41 #[.slice A n c, .slice B m d]
    have hbv : Below (w).heap.size (w) ((w).alloc (.cells #[.slice A n c, .slice B m d] 41)) := (Below.refl _ _).alloc (Nat.le_refl _) _
    replace hr := hr.on hbv
    replace hs := hs.on hbv
    generalize (w).alloc (.cells #[.slice A n c, .slice B m d] 41) = v at *
    with_reducible refine (szStringS_any _ _ _ ls _ _ hr HG.out h0 h1).mono ?_
    rw [F.out]
    rintro e w1 ⟨rfl, hb1⟩
    go_wp2
    go_ret
    exact ⟨rfl, below_on hb1 hbv⟩
set_option maxHeartbeats 1000000 in
theorem toPer_any (A : Option Addr) (n c : Nat) (B : Option Addr) (m d : Nat) (ls : List ByteArray) (ws : List (List Int)) (w : World) (hr : RdL cs1 1 w w.heap.size A n c ls) (hs : ML w w.heap.size B m d ws) (hn : n ≤ 1048576) (hm : totM ws ≤ 1048576) :
    Calls Try.prog 25 #[.agg #[.slice A n c, .slice B m d]] w fun e w' => ∃ g g', e = .returned (.agg #[.slice (some ⟨g, 0, none⟩) n n, .slice (some ⟨g', 0, none⟩) m m]) ∧ RdL cs1 1 w' w'.heap.size (some ⟨g, 0, none⟩) n n ls ∧ ML w' w'.heap.size (some ⟨g', 0, none⟩) m m ws ∧ Below w.heap.size w w' := by
  have HM := Lib.hid hm
  have gl := Lib.hid hs.len
  have hl := Lib.hid hr.len
  have HS0 := Lib.hid hs
  clear hm hs
  go_enter Try.func25, Try.ntmps25
  go_wp2_with fail
  have P0 : Blk (((w.alloc (.cells #[.slice A n c, .slice B m d] 41)).alloc (.cells #[.slice none 0 0, .slice none 0 0] 44)).alloc (.cells #[.slice none 0 0, .slice none 0 0] 44)) (w.heap.size) 41 #[.slice A n c, .slice B m d] := by have hk := ((Blk.new w 41 #[.slice A n c, .slice B m d]).alloc (.cells #[.slice none 0 0, .slice none 0 0] 44)).alloc (.cells #[.slice none 0 0, .slice none 0 0] 44); simpa using hk
  have K0 : Blk (((w.alloc (.cells #[.slice A n c, .slice B m d] 41)).alloc (.cells #[.slice none 0 0, .slice none 0 0] 44)).alloc (.cells #[.slice none 0 0, .slice none 0 0] 44)) (w.heap.size + 1) 44 #[.slice none 0 0, .slice none 0 0] := by have hk := (Blk.new (w.alloc (.cells #[.slice A n c, .slice B m d] 41)) 44 #[.slice none 0 0, .slice none 0 0]).alloc (.cells #[.slice none 0 0, .slice none 0 0] 44); simpa using hk
  have J0 : Blk (((w.alloc (.cells #[.slice A n c, .slice B m d] 41)).alloc (.cells #[.slice none 0 0, .slice none 0 0] 44)).alloc (.cells #[.slice none 0 0, .slice none 0 0] 44)) (w.heap.size + 1 + 1) 44 #[.slice none 0 0, .slice none 0 0] := by have hk := Blk.new ((w.alloc (.cells #[.slice A n c, .slice B m d] 41)).alloc (.cells #[.slice none 0 0, .slice none 0 0] 44)) 44 #[.slice none 0 0, .slice none 0 0]; simpa using hk
  have hbv : Below w.heap.size w (((w.alloc (.cells #[.slice A n c, .slice B m d] 41)).alloc (.cells #[.slice none 0 0, .slice none 0 0] 44)).alloc (.cells #[.slice none 0 0, .slice none 0 0] 44)) := (by repeat (first | exact Below.refl _ _ | assumption | refine Below.drew ?_ | refine below_drewN ?_ _ | refine Below.alloc ?_ (by first | omega | (simp <;> omega)) _ | refine Below.setCell ?_ (by first | omega | (simp <;> omega)) _))
  replace hr := hr.on hbv
  generalize (((w.alloc (.cells #[.slice A n c, .slice B m d] 41)).alloc (.cells #[.slice none 0 0, .slice none 0 0] 44)).alloc (.cells #[.slice none 0 0, .slice none 0 0] 44)) = v at *
  have zv := J0.lt
  with_reducible refine (toStringS_any _ _ _ ls _ hr hn).mono ?_
  rintro e w1 ⟨rfl, o1, hb1⟩
  replace P0 := P0.on hb1
  replace K0 := K0.on hb1
  replace J0 := J0.on hb1
  replace hbv := below_on hb1 hbv
  have p0 := P0.cell 0
  have p1 := P0.cell 1
  simp only [List.getElem?_toArray, List.getElem?_cons_succ, List.getElem?_cons_zero] at p0 p1
  have zp := P0.lt
  have zj := J0.lt
  have j0 := J0.cell 0
  have j1 := J0.cell 1
  simp only [List.getElem?_toArray, List.getElem?_cons_succ, List.getElem?_cons_zero] at j0 j1
  have g0 := J0.frozen 0
  have g1 := J0.frozen 1
  go_wp2_with fail
  clear p0 p1 j0 j1 g0 g1
  have P1 := P0.far (p := ⟨w.heap.size + 1 + 1, 0, none⟩) (by simp only; omega) (.slice (some ⟨v.heap.size, 0, none⟩) n n)
  have K1 := K0.far (p := ⟨w.heap.size + 1 + 1, 0, none⟩) (by simp only; omega) (.slice (some ⟨v.heap.size, 0, none⟩) n n)
  have J1 := J0.set_ 0 (.slice (some ⟨v.heap.size, 0, none⟩) n n)
  rw [show (#[Value.slice none 0 0, Value.slice none 0 0] : Array Value).setIfInBounds 0 (.slice (some ⟨v.heap.size, 0, none⟩) n n) = #[.slice (some ⟨v.heap.size, 0, none⟩) n n, .slice none 0 0] from rfl] at J1
  have hB2 := hbv.setCell (p := ⟨w.heap.size + 1 + 1, 0, none⟩) (by simp only; omega) (.slice (some ⟨v.heap.size, 0, none⟩) n n)
  have o2 := ownsRow_setCell_below o1 (a := ⟨w.heap.size + 1 + 1, 0, none⟩) (by simp only; omega) (.slice (some ⟨v.heap.size, 0, none⟩) n n)
  clear P0 K0 J0 hbv o1
  generalize w1.setCell ⟨w.heap.size + 1 + 1, 0, none⟩ (.slice (some ⟨v.heap.size, 0, none⟩) n n) = w2 at *
  have zw2 := hB2.size
  have zj2 := J1.lt
  with_reducible refine (toInt64SS_any _ _ _ ws _ ((HS0.out.below hB2).more zw2) HM.out).mono ?_
  rintro e w3 ⟨hs3, rfl, o3, l3, u3, hb3⟩
  have HO3 := Lib.hid o3
  have HL3 := Lib.hid l3
  have HU3 := Lib.hid u3
  have HO2 := Lib.hid (own_below o2 hb3)
  have zb3 := hb3.size
  replace P1 := P1.on hb3
  replace K1 := K1.on hb3
  replace J1 := J1.on hb3
  have hB3 := below_on hb3 hB2
  have k0 := K1.cell 0
  have k1 := K1.cell 1
  simp only [List.getElem?_toArray, List.getElem?_cons_succ, List.getElem?_cons_zero] at k0 k1
  have j0 := J1.cell 0
  have j1 := J1.cell 1
  simp only [List.getElem?_toArray, List.getElem?_cons_succ, List.getElem?_cons_zero] at j0 j1
  have f0 := K1.frozen 0
  have f1 := K1.frozen 1
  have g0 := J1.frozen 0
  have g1 := J1.frozen 1
  have zk := K1.lt
  have zj := J1.lt
  clear o3 l3 u3 o2 hb1
  go_wp2
  refine bodyPost_ret (v := .agg #[.slice (some ⟨v.heap.size, 0, none⟩) n n, .slice (some ⟨w2.heap.size, 0, none⟩) m m]) (by simp [results, Try.results25, go_sem, k0, k1]) rfl ⟨v.heap.size, w2.heap.size, rfl, ?_, ?_, (by repeat (first | exact Below.refl _ _ | assumption | refine Below.drew ?_ | refine below_drewN ?_ _ | refine Below.alloc ?_ (by first | omega | (simp <;> omega)) _ | refine Below.setCell ?_ (by first | omega | (simp <;> omega)) _))⟩
  · exact RdL.of_own hl.out (ownsRow_setCell_below (ownsRow_setCell_below (ownsRow_setCell_below HO2.out (by simp only; omega) _) (by simp only; omega) _) (by simp only; omega) _)
  · exact ml_own (ownsRow_setCell_below (ownsRow_setCell_below (ownsRow_setCell_below HO3.out (by simp only; omega) _) (by simp only; omega) _) (by simp only; omega) _) HL3.out gl.out (fun k q x h1 h2 => ⟨(HU3.out k q x h1 h2).1, ownsRow_setCell_below (ownsRow_setCell_below (ownsRow_setCell_below (HU3.out k q x h1 h2).2 (by simp only; omega) _) (by simp only; omega) _) (by simp only; omega) _⟩)
theorem eqPer_yes (A A' : Option Addr) (n c n' c' : Nat) (B B' : Option Addr) (m d m' d' : Nat) (ls : List ByteArray) (ws : List (List Int)) (w : World) (hr : RdL cs1 1 w w.heap.size A n c ls) (hr' : RdL cs1 1 w w.heap.size A' n' c' ls) (hs : ML w w.heap.size B m d ws) (hs' : ML w w.heap.size B' m' d' ws) (hn : n ≤ 1048576) (hm : totM ws ≤ 1048576) :
    Calls Try.prog 27 #[.agg #[.slice A n c, .slice B m d], .agg #[.slice A' n' c', .slice B' m' d']] w fun e w' => e = .returned (.bool true) ∧ Below w.heap.size w w' := by
  have HM := Lib.hid hm
  clear hm
  go_enter Try.func27, Try.ntmps27
  go_wp2_with fail
  have K0 : Blk ((w.alloc (.cells #[.slice A n c, .slice B m d] 44)).alloc (.cells #[.slice A' n' c', .slice B' m' d'] 44)) (w.heap.size) 44 #[.slice A n c, .slice B m d] := by have hk := (Blk.new w 44 #[.slice A n c, .slice B m d]).alloc (.cells #[.slice A' n' c', .slice B' m' d'] 44); simpa using hk
  have J0 : Blk ((w.alloc (.cells #[.slice A n c, .slice B m d] 44)).alloc (.cells #[.slice A' n' c', .slice B' m' d'] 44)) (w.heap.size + 1) 44 #[.slice A' n' c', .slice B' m' d'] := by have hk := Blk.new (w.alloc (.cells #[.slice A n c, .slice B m d] 44)) 44 #[.slice A' n' c', .slice B' m' d']; simpa using hk
  have hbv : Below w.heap.size w ((w.alloc (.cells #[.slice A n c, .slice B m d] 44)).alloc (.cells #[.slice A' n' c', .slice B' m' d'] 44)) := (by repeat (first | exact Below.refl _ _ | assumption | refine Below.drew ?_ | refine below_drewN ?_ _ | refine Below.alloc ?_ (by first | omega | (simp <;> omega)) _ | refine Below.setCell ?_ (by first | omega | (simp <;> omega)) _))
  replace hr := hr.on hbv
  replace hr' := hr'.on hbv
  replace hs := hs.on hbv
  replace hs' := hs'.on hbv
  generalize ((w.alloc (.cells #[.slice A n c, .slice B m d] 44)).alloc (.cells #[.slice A' n' c', .slice B' m' d'] 44)) = v at *
  with_reducible refine (eqStringS_yes _ _ _ _ _ _ ls _ hr hr' hn).mono ?_
  rintro e w1 ⟨rfl, hb1⟩
  replace K0 := K0.on hb1
  replace J0 := J0.on hb1
  replace hs := hs.on hb1
  replace hs' := hs'.on hb1
  have k0 := K0.cell 0
  have k1 := K0.cell 1
  simp only [List.getElem?_toArray, List.getElem?_cons_succ, List.getElem?_cons_zero] at k0 k1
  have j0 := J0.cell 0
  have j1 := J0.cell 1
  simp only [List.getElem?_toArray, List.getElem?_cons_succ, List.getElem?_cons_zero] at j0 j1
  have zk := K0.lt
  have zj := J0.lt
  go_wp2_with fail
  with_reducible refine (eqInt64SS_yes _ _ _ _ _ _ ws _ hs hs' HM.out).mono ?_
  rintro e w2 ⟨rfl, hb2⟩
  clear k0 k1 j0 j1
  go_wp2
  go_ret
  exact ⟨rfl, below_on hb2 (below_on hb1 hbv)⟩
section
variable {H : Type} {enc : TypeId × Value → H} {P : Program} {w : World} {base : Nat} {spare : Nat → Bool} {held : Bool}
def RS (cs : List Value) (x : ByteArray) : Prop := cs = cs1 x ∧ x.size ≤ maxLen
theorem el_str {e : TypeId} (h1 : P.underlying e = some .string) (fuel : Nat) (cs : List Value) (x : DataW H × List MemPlace) (h : DataW.trod enc P w base spare held fuel e cs = some x) : ∃ z, RS cs z := by
  obtain ⟨s, hs1, _, hs2⟩ := DataW.trod_string h1 h
  exact ⟨s, hs1, hs2⟩
end
section
variable {H : Type} {enc : TypeId × Value → H} {W : World} {v : Value} {d : DataW H} {p : List MemPlace} {base : Nat}
set_option maxRecDepth 100000 in
theorem opPerceptron (hv : Value.okWide Try.prog W .any base 41 v) (h : DataW.Trod enc Try.prog W 0 (fun _ => true) true 41 v d p) :
    ∃ (A : Option Addr) (n c : Nat) (B : Option Addr) (m q : Nat) (ls : List ByteArray) (ws : List (List Int)), v = .agg #[.slice A n c, .slice B m q] ∧ RdL cs1 1 W W.heap.size A n c ls ∧ (∀ x ∈ ls, x.size ≤ maxLen) ∧ ML W W.heap.size B m q ws ∧ ∀ x ∈ ws, ∀ q ∈ x, I64 q := by
  obtain ⟨v0, v1, y0, y1, k, rfl, _, _, t0, t1⟩ := open_agg2 Try.underlying41 (by kernel_rfl) (by kernel_rfl) hv h
  obtain ⟨A, n, c, ls, e0, s0⟩ := open_sl (R := RS) Try.underlying38 (show Try.prog.cellsOf 9 = 1 by kernel_rfl) (by decide) (el_str Try.underlying9) t0
  obtain ⟨r0, g0⟩ := sl_flat (f := cs1) (ok := fun x => x.size ≤ maxLen) cs1_len s0
  obtain ⟨B, m, q, ws, e1, s1⟩ := open_sl (R := R1s W) Try.underlying39 (show Try.prog.cellsOf 26 = 1 by kernel_rfl) (by decide) (el_ints Try.underlying26 Try.underlying2 (by kernel_rfl)) t1
  obtain ⟨r1, g1⟩ := ml_of s1
  cases e0
  cases e1
  exact ⟨A, n, c, B, m, q, ls, ws, rfl, r0, g0, r1, g1⟩
end
end Go.Proofs.Ytammapaockmjkaa
