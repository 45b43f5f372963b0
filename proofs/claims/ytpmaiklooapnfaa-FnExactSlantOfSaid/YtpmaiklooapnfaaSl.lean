/- SlantOf. -/
import Derived.Test.YtpmaiklooapnfaaIk
import Derived.Test.YtpmaiklooapnfaaCt
namespace Go.Proofs.Ytpmaiklooapnfaa
open Go.ChangeShapes Go.WideShapes Go.ChangeAt Go.RowKit
def slA (p q : T3) (a : T2) : T2 := if (q.1 - p.1).natAbs < (q.2.1 - p.2.1).natAbs then (a.1 - (q.1 - p.1) * (q.2.1 - p.2.1), a.2 + (q.2.1 - p.2.1) * (q.2.1 - p.2.1)) else a
def slN (x : List T3) (a : T2) : Nat → T2
  | 0 => a
  | k + 1 => if k = 0 then a else slA (x.getD (k - 1) (0, 0, 0)) (x.getD k (0, 0, 0)) (slN x a k)
def slI (xs : List (List T3)) : Nat → T2
  | 0 => (0, 0)
  | k + 1 => slN (xs.getD k []) (slI xs k) (xs.getD k []).length
theorem slN_one (x : List T3) (a : T2) : slN x a 1 = a := by simp [slN]
theorem slN_step {x : List T3} {a : T2} {k : Nat} {p q : T3} (hk : 1 ≤ k) (hp : x[k - 1]? = some p) (hq : x[k]? = some q) : slN x a (k + 1) = slA p q (slN x a k) := by
  rw [slN, if_neg (by omega), getD_of hp, getD_of hq]
theorem slI_step {xs : List (List T3)} {k : Nat} {x : List T3} (h : xs[k]? = some x) : slI xs (k + 1) = slN x (slI xs k) x.length := by rw [slI, getD_of h]
theorem slA_yes {p q : T3} {a : T2} (h : (q.1 - p.1).natAbs < (q.2.1 - p.2.1).natAbs) : slA p q a = (a.1 - (q.1 - p.1) * (q.2.1 - p.2.1), a.2 + (q.2.1 - p.2.1) * (q.2.1 - p.2.1)) := if_pos h
theorem slA_no {p q : T3} {a : T2} (h : ¬ (q.1 - p.1).natAbs < (q.2.1 - p.2.1).natAbs) : slA p q a = a := if_neg h
def okSl (a : T2) (k : Nat) : Prop := -(16769025 * (k : Int)) ≤ a.1 ∧ a.1 ≤ 16769025 * k ∧ 0 ≤ a.2 ∧ a.2 ≤ 16769025 * k
theorem prod_bd {d e : Int} (h0 : -4095 ≤ d) (h1 : d ≤ 4095) (h2 : -4095 ≤ e) (h3 : e ≤ 4095) : -16769025 ≤ d * e ∧ d * e ≤ 16769025 := by
  obtain ⟨g1, g2⟩ := mul_in 4095 4095 (a := d) (b := e) (by omega) (by omega) (by omega) (by omega)
  omega
theorem sq_nn (d : Int) : 0 ≤ d * d := by
  rcases Int.le_total 0 d with h | h
  · exact Int.mul_nonneg h h
  · have := Int.mul_nonneg (show 0 ≤ -d by omega) (show 0 ≤ -d by omega)
    rw [Int.neg_mul_neg] at this; exact this
theorem slN_bd {x : List T3} (hs : strokeB x = true) {a : T2} {b : Nat} (ha : okSl a b) : ∀ k, 1 ≤ k → k ≤ x.length → okSl (slN x a k) (b + k)
  | 0, h, _ => by omega
  | 1, _, _ => by rw [slN_one]; obtain ⟨h1, h2, h3, h4⟩ := ha; exact ⟨by omega, by omega, h3, by omega⟩
  | k + 2, _, hk => by
    obtain ⟨h1, h2, h3, h4⟩ := slN_bd hs ha (k + 1) (by omega) (by omega)
    have hp : x[k + 1 - 1]? = some (x[k]'(by omega)) := List.getElem?_eq_getElem (by omega)
    have hq : x[k + 1]? = some (x[k + 1]'(by omega)) := List.getElem?_eq_getElem (by omega)
    rw [slN_step (by omega) hp hq]
    have V1 := strokeB_at hs hp
    have V2 := strokeB_at hs hq
    generalize x[k]'(by omega) = p at *
    generalize x[k + 1]'(by omega) = q at *
    obtain ⟨px, py, pt⟩ := p
    obtain ⟨qx, qy, qt⟩ := q
    obtain ⟨⟨u0, u1⟩, ⟨u2, u3⟩, _, _⟩ := ptOk_iff.1 V1
    obtain ⟨⟨v0, v1⟩, ⟨v2, v3⟩, _, _⟩ := ptOk_iff.1 V2
    obtain ⟨b0, b1⟩ := prod_bd (d := qx - px) (e := qy - py) (by omega) (by omega) (by omega) (by omega)
    obtain ⟨b2, b3⟩ := prod_bd (d := qy - py) (e := qy - py) (by omega) (by omega) (by omega) (by omega)
    have b4 := sq_nn (qy - py)
    unfold slA
    split
    · refine ⟨?_, ?_, ?_, ?_⟩ <;> simp only <;> omega
    · exact ⟨by omega, by omega, h3, by omega⟩
theorem slI_bd {xs : List (List T3)} (hi : inkB xs = true) : ∀ k, k ≤ xs.length → okSl (slI xs k) (60 * k)
  | 0, _ => ⟨by simp [slI], by simp [slI], by simp [slI], by simp [slI]⟩
  | k + 1, hk => by
    have ih := slI_bd hi k (by omega)
    have hx : xs[k]? = some (xs[k]'(by omega)) := List.getElem?_eq_getElem (by omega)
    have hs := inkB_at hi hx
    have h4 := strokeB_len hs
    rw [slI_step hx]
    obtain ⟨h1, h2, h3, h4'⟩ := slN_bd hs ih _ (by omega) (Nat.le_refl _)
    exact ⟨by omega, by omega, h3, by omega⟩
def slV (xs : List (List T3)) : Int := if inkB xs = true then (if (slI xs xs.length).2 = 0 then 0 else nearD (256 * (slI xs xs.length).1) (slI xs xs.length).2) else 0
def slE (xs : List (List T3)) : Int := if inkB xs = true then (if (slI xs xs.length).2 = 0 then 6 else 0) else 1
theorem sl_bad {xs : List (List T3)} (h : inkB xs = false) : slV xs = 0 ∧ slE xs = 1 := by unfold slV slE; rw [h]; exact ⟨rfl, rfl⟩
theorem sl_none {xs : List (List T3)} (h : inkB xs = true) (h2 : (slI xs xs.length).2 = 0) : slV xs = 0 ∧ slE xs = 6 := by unfold slV slE; rw [h, if_pos rfl, if_pos rfl, if_pos h2, if_pos h2]; exact ⟨rfl, rfl⟩
theorem sl_ok {xs : List (List T3)} (h : inkB xs = true) (h2 : ¬ (slI xs xs.length).2 = 0) : slV xs = nearD (256 * (slI xs xs.length).1) (slI xs xs.length).2 ∧ slE xs = 0 := by unfold slV slE; rw [h, if_pos rfl, if_pos rfl, if_neg h2, if_neg h2]; exact ⟨rfl, rfl⟩
theorem l05Size_any (n : Int) (w : World) (h : -9223372036854775807 ≤ n) (h' : n ≤ 9223372036854775807) : Calls Try.prog 117 #[.int .i64 n] w fun e w' => e = .returned (.int .i64 n.natAbs) ∧ w = w' := by
  go_enter Try.func117, Try.ntmps117
  go_wp2
  all_goals
    go_ret
    exact ⟨ret_int (by have := IntWalk.i64_in (-n) (by omega); first | omega | (rw [this]; omega)), rfl⟩
set_option maxRecDepth 100000 in
set_option maxHeartbeats 8000000 in
theorem l07Slant_any (A : Option Addr) (n c : Nat) (xs : List (List T3)) (w : World) (g0 oo : Nat) (K0 : Cel w g0 oo (.slice A n c)) (hr : NL w w.heap.size A n c xs) (hok : inkB xs = true) :
    Calls Try.prog 75 #[.pointer (some ⟨g0, oo, none⟩)] w fun e w' => e = .returned (.tuple #[.int .i64 (slI xs n).1, .int .i64 (slI xs n).2]) ∧ Below w.heap.size w w' := by
  have hl := Lib.hid hr.len
  have h16 := inkB_len hok
  rw [hl.out] at h16
  have Hok := Lib.hid hok
  clear hok
  go_enter Try.func75, Try.ntmps75
  go_wp2_with fail
  go_loopw [4, 5, 6] (fun p q i wr => ∃ k : Nat, k ≤ n ∧ i = .int .i64 k ∧ p = .int .i64 (slI xs k).1 ∧ q = .int .i64 (slI xs k).2 ∧ Below w.heap.size w wr) (fun _ _ i _ => n - (intOf i).toNat)
  case atStart => exact ⟨0, by omega, rfl, rfl, rfl, Below.refl _ _⟩
  case round =>
    obtain ⟨k, hk, rfl, rfl, rfl, hb⟩ := hrel
    have hbd := slI_bd Hok.out k (by rw [hl.out]; omega)
    have K1 := K0.on hb
    have e0 := K1.cell
    by_cases hlt : k < n
    · obtain ⟨b, off, A', n', c', x, rfl, hbl, hx, q0, hx3⟩ := (hr.on hb).at_ hlt
      have i1 : (k : Int) < (n : Int) := by omega
      have i2 : (0 : Int) ≤ (k : Int) := by omega
      have hs := Lib.hid (inkB_at Hok.out hx.out)
      have hsl := strokeB_len hs.out
      have hxl := Lib.hid hx3.len
      rw [hxl.out] at hsl
      have HX := Lib.hid hx3
      have HS := Lib.hid (slI_step hx.out)
      clear hx3 K1
      obtain ⟨a, ha⟩ : ∃ a, slI xs k = a := ⟨_, rfl⟩
      rw [ha] at HS hbd
      have hbd := Lib.hid hbd
      rw [ha]
      go_wp2
      have hba := hb
      have hx3 := HX.out
      clear q0 HX e0
      go_loopw [4, 5, 8] (fun p q i wi => ∃ m : Nat, 1 ≤ m ∧ m ≤ n' ∧ i = .int .i64 m ∧ p = .int .i64 (slN x a m).1 ∧ q = .int .i64 (slN x a m).2 ∧ Below wr.heap.size wr wi) (fun _ _ i _ => n' - (intOf i).toNat)
      case atStart => exact ⟨1, by omega, by omega, rfl, by rw [slN_one], by rw [slN_one], Below.refl _ _⟩
      case round =>
        obtain ⟨m, hm1, hm, rfl, rfl, rfl, hbi⟩ := hrel
        have hbd2 := slN_bd hs.out hbd.out m hm1 (by rw [hxl.out]; omega)
        skip
        skip
        by_cases hlm : m < n'
        · obtain ⟨bb, of2, x1, y1, t1, rfl, hbl3, hp, r0, r1, r2⟩ := (hx3.on hbi).at3 hlm
          obtain ⟨bb', of2', x0, y0, t0, he, _, hp', s0, s1, s2⟩ := (hx3.on hbi).at3 (show m - 1 < n' by omega)
          cases he
          have i3 : (m : Int) < (n' : Int) := by omega
          have i4 : (0 : Int) ≤ (m : Int) := by omega
          have i5 : (1 : Int) ≤ (m : Int) := by omega
          have i6 : (0 : Int) ≤ (m : Int) - 1 := by omega
          have i7 : (m : Int) - 1 < (n' : Int) := by omega
          have i8 : IntKind.i64.wrap ((m : Int) - 1) = (m : Int) - 1 := IntWalk.i64_in _ (by omega)
          have i9 : ((m : Int) - 1).toNat = m - 1 := by omega
          obtain ⟨⟨u0, u1⟩, ⟨u2, u3⟩, _, _⟩ := ptOk_iff.1 (strokeB_at hs.out hp.out)
          obtain ⟨⟨v0, v1⟩, ⟨v2, v3⟩, _, _⟩ := ptOk_iff.1 (strokeB_at hs.out hp'.out)
          have HT := Lib.hid (slN_step (a := a) hm1 hp'.out hp.out)
          obtain ⟨sa, hsa⟩ : ∃ sa, slN x a m = sa := ⟨_, rfl⟩
          rw [hsa] at HT hbd2
          rw [hsa]
          obtain ⟨g0, g1, g2, g3⟩ := hbd2
          have w1' : IntKind.i64.wrap (x1 - x0) = x1 - x0 := IntWalk.i64_in _ (by omega)
          have w2' : IntKind.i64.wrap (y1 - y0) = y1 - y0 := IntWalk.i64_in _ (by omega)
          obtain ⟨b0, b1⟩ := prod_bd (d := x1 - x0) (e := y1 - y0) (by omega) (by omega) (by omega) (by omega)
          obtain ⟨b2, b3⟩ := prod_bd (d := y1 - y0) (e := y1 - y0) (by omega) (by omega) (by omega) (by omega)
          have hsz := hbi.size
          replace hbl3 : bb < wr.heap.size := by omega
          have hk16 : k ≤ 16 := by omega
          have w3 : IntKind.i64.wrap ((x1 - x0) * (y1 - y0)) = (x1 - x0) * (y1 - y0) := IntWalk.i64_in _ (by omega)
          have w4 : IntKind.i64.wrap ((y1 - y0) * (y1 - y0)) = (y1 - y0) * (y1 - y0) := IntWalk.i64_in _ (by omega)
          have w5 : IntKind.i64.wrap (sa.1 - (x1 - x0) * (y1 - y0)) = sa.1 - (x1 - x0) * (y1 - y0) := IntWalk.i64_in _ (by omega)
          have w6 : IntKind.i64.wrap (sa.2 + (y1 - y0) * (y1 - y0)) = sa.2 + (y1 - y0) * (y1 - y0) := IntWalk.i64_in _ (by omega)
          have zA := fun Z => l05Size_any (y1 - y0) Z (by omega) (by omega)
          have zB := fun Z => l05Size_any (x1 - x0) Z (by omega) (by omega)
          have ZA := Lib.hid zA
          have ZB := Lib.hid zB
          clear hx3 zA zB g0 g1 g2 g3 b0 b1 b2 b3 u0 u1 u2 u3 v0 v1 v2 v3
          by_cases hgt : (x1 - x0).natAbs < (y1 - y0).natAbs
          · have HU := Lib.hid (slA_yes (p := (x0, y0, t0)) (q := (x1, y1, t1)) (a := sa) hgt)
            have hgt2 : ((x1 - x0).natAbs : Int) < ((y1 - y0).natAbs : Int) := by omega
            go_wp2
            go_quiet (fail)
            go_wp2
            go_quiet (fail)
            go_wp2_with (first | (go_at_call 117; (first | with_reducible refine (ZA.out _).mono ?_ | with_reducible refine (ZB.out _).mono ?_); rintro e w' ⟨rfl, rfl⟩))
            exact ⟨⟨m + 1, by omega, by omega, by go_num, by rw [HT.out, HU.out], by rw [HT.out, HU.out], (by repeat (first | exact Below.refl _ _ | assumption | refine Below.drew ?_ | refine below_drewN ?_ _ | refine Below.alloc ?_ (by first | omega | (simp <;> omega)) _ | refine Below.setCell ?_ (by first | omega | (simp <;> omega)) _))⟩, by simp [intOf]; omega⟩
          · have HU := Lib.hid (slA_no (p := (x0, y0, t0)) (q := (x1, y1, t1)) (a := sa) hgt)
            have hgt2 : ¬ ((x1 - x0).natAbs : Int) < ((y1 - y0).natAbs : Int) := by omega
            go_wp2
            go_quiet (fail)
            go_wp2
            go_quiet (fail)
            go_wp2_with (first | (go_at_call 117; (first | with_reducible refine (ZA.out _).mono ?_ | with_reducible refine (ZB.out _).mono ?_); rintro e w' ⟨rfl, rfl⟩))
            exact ⟨⟨m + 1, by omega, by omega, by go_num, by rw [HT.out, HU.out], by rw [HT.out, HU.out], (by repeat (first | exact Below.refl _ _ | assumption | refine Below.drew ?_ | refine below_drewN ?_ _ | refine Below.alloc ?_ (by first | omega | (simp <;> omega)) _ | refine Below.setCell ?_ (by first | omega | (simp <;> omega)) _))⟩, by simp [intOf]; omega⟩
        · have hmn : m = n' := by omega
          subst hmn
          rw [hxl.out] at HS
          clear hx3
          have hb9 := below_on hbi hba
          go_wp2
          exact ⟨⟨k + 1, by omega, by go_num, by rw [HS.out], by rw [HS.out], hb9⟩, by simp [intOf]; omega⟩
    · have hkn : k = n := by omega
      subst hkn
      clear hr K1
      go_wp2
      go_ret2
      exact ⟨rfl, hb⟩
set_option maxRecDepth 100000 in
set_option maxHeartbeats 8000000 in
theorem iSlant_any (A : Option Addr) (n c : Nat) (xs : List (List T3)) (w : World) (hr : NL w w.heap.size A n c xs) (hn : totL xs ≤ 1048576) :
    Calls Try.prog 29 #[.agg #[.slice A n c]] w fun e w' => e = .returned (.tuple #[.int .i64 (slV xs), .int .i64 (slE xs)]) ∧ Below w.heap.size w w' := by
  have hl := Lib.hid hr.len
  go_enter Try.func29, Try.ntmps29
  go_wp2_with fail
  have K0 := Blk.new (w) 51 #[.slice A n c]
  have hbv : Below (w).heap.size (w) ((w).alloc (.cells #[.slice A n c] 51)) := (Below.refl _ _).alloc (Nat.le_refl _) _
  replace hr := hr.on hbv
  generalize (w).alloc (.cells #[.slice A n c] 51) = v at *
  have e0 := K0.cell 0
  simp only [List.getElem?_toArray, List.getElem?_cons_zero] at e0
  go_wp2_with fail
  with_reducible refine (iValidInk_any _ _ _ xs _ hr hn).mono ?_
  rintro e w1 ⟨rfl, hbw1⟩
  have hB := below_on hbw1 hbv
  replace K0 := K0.on hbw1
  replace hr := hr.on hbw1
  clear e0
  cases hok : inkB xs with
  | false =>
    have F := sl_bad hok
    clear hr K0
    go_wp2
    go_ret2
    rw [F.1, F.2]
    exact ⟨rfl, hB⟩
  | true =>
    have Hok := Lib.hid hok
    have h16 := inkB_len hok
    rw [hl.out] at h16
    have e0 := K0.cell 0
    simp only [List.getElem?_toArray, List.getElem?_cons_zero] at e0
    have HR := Lib.hid hr
    clear hr
    go_wp2
    clear e0 hok
    have hr := HR.out
    clear HR
    go_loopw [4, 5, 17] (fun p q i wr => ∃ k : Nat, k ≤ n ∧ i = .int .i64 k ∧ p = .int .i64 (slI xs k).1 ∧ q = .int .i64 (slI xs k).2 ∧ Below w1.heap.size w1 wr) (fun _ _ i _ => n - (intOf i).toNat)
    case atStart => exact ⟨0, by omega, rfl, rfl, rfl, Below.refl _ _⟩
    case round =>
      obtain ⟨k, hk, rfl, rfl, rfl, hb⟩ := hrel
      have hbd := slI_bd Hok.out k (by rw [hl.out]; omega)
      have K1 := K0.on hb
      skip
      by_cases hlt : k < n
      · obtain ⟨b, off, A', n', c', x, rfl, hbl, hx, q0, hx3⟩ := (hr.on hb).at_ hlt
        have i1 : (k : Int) < (n : Int) := by omega
        have i2 : (0 : Int) ≤ (k : Int) := by omega
        have hs := Lib.hid (inkB_at Hok.out hx.out)
        have hsl := strokeB_len hs.out
        have hxl := Lib.hid hx3.len
        rw [hxl.out] at hsl
        have HX := Lib.hid hx3
        have HS := Lib.hid (slI_step hx.out)
        clear hx3 K1
        obtain ⟨a, ha⟩ : ∃ a, slI xs k = a := ⟨_, rfl⟩
        rw [ha] at HS hbd
        have hbd := Lib.hid hbd
        rw [ha]
        go_wp2
        have P0 := Blk.new (wr) 28 #[.slice A' n' c']
        have hbwa : Below (wr).heap.size (wr) ((wr).alloc (.cells #[.slice A' n' c'] 28)) := (Below.refl _ _).alloc (Nat.le_refl _) _
        generalize (wr).alloc (.cells #[.slice A' n' c'] 28) = wa at *
        have hba := below_on hbwa hb
        have hx3 := HX.out.on hbwa
        clear q0 HX
        go_loopw [4, 5, 8] (fun p q i wi => ∃ m : Nat, 1 ≤ m ∧ m ≤ n' ∧ i = .int .i64 m ∧ p = .int .i64 (slN x a m).1 ∧ q = .int .i64 (slN x a m).2 ∧ Below wa.heap.size wa wi) (fun _ _ i _ => n' - (intOf i).toNat)
        case atStart => exact ⟨1, by omega, by omega, rfl, by rw [slN_one], by rw [slN_one], Below.refl _ _⟩
        case round =>
          obtain ⟨m, hm1, hm, rfl, rfl, rfl, hbi⟩ := hrel
          have hbd2 := slN_bd hs.out hbd.out m hm1 (by rw [hxl.out]; omega)
          have P1 := P0.on hbi
          have pp0 := P1.cell 0
          simp only [List.getElem?_toArray, List.getElem?_cons_zero] at pp0
          by_cases hlm : m < n'
          · obtain ⟨bb, of2, x1, y1, t1, rfl, hbl3, hp, r0, r1, r2⟩ := (hx3.on hbi).at3 hlm
            obtain ⟨bb', of2', x0, y0, t0, he, _, hp', s0, s1, s2⟩ := (hx3.on hbi).at3 (show m - 1 < n' by omega)
            cases he
            have i3 : (m : Int) < (n' : Int) := by omega
            have i4 : (0 : Int) ≤ (m : Int) := by omega
            have i5 : (1 : Int) ≤ (m : Int) := by omega
            have i6 : (0 : Int) ≤ (m : Int) - 1 := by omega
            have i7 : (m : Int) - 1 < (n' : Int) := by omega
            have i8 : IntKind.i64.wrap ((m : Int) - 1) = (m : Int) - 1 := IntWalk.i64_in _ (by omega)
            have i9 : ((m : Int) - 1).toNat = m - 1 := by omega
            obtain ⟨⟨u0, u1⟩, ⟨u2, u3⟩, _, _⟩ := ptOk_iff.1 (strokeB_at hs.out hp.out)
            obtain ⟨⟨v0, v1⟩, ⟨v2, v3⟩, _, _⟩ := ptOk_iff.1 (strokeB_at hs.out hp'.out)
            have HT := Lib.hid (slN_step (a := a) hm1 hp'.out hp.out)
            obtain ⟨sa, hsa⟩ : ∃ sa, slN x a m = sa := ⟨_, rfl⟩
            rw [hsa] at HT hbd2
            rw [hsa]
            obtain ⟨g0, g1, g2, g3⟩ := hbd2
            have w1' : IntKind.i64.wrap (x1 - x0) = x1 - x0 := IntWalk.i64_in _ (by omega)
            have w2' : IntKind.i64.wrap (y1 - y0) = y1 - y0 := IntWalk.i64_in _ (by omega)
            obtain ⟨b0, b1⟩ := prod_bd (d := x1 - x0) (e := y1 - y0) (by omega) (by omega) (by omega) (by omega)
            obtain ⟨b2, b3⟩ := prod_bd (d := y1 - y0) (e := y1 - y0) (by omega) (by omega) (by omega) (by omega)
            have hsz := hbi.size
            replace hbl3 : bb < wr.heap.size := by omega
            have hk16 : k ≤ 16 := by omega
            have w3 : IntKind.i64.wrap ((x1 - x0) * (y1 - y0)) = (x1 - x0) * (y1 - y0) := IntWalk.i64_in _ (by omega)
            have w4 : IntKind.i64.wrap ((y1 - y0) * (y1 - y0)) = (y1 - y0) * (y1 - y0) := IntWalk.i64_in _ (by omega)
            have w5 : IntKind.i64.wrap (sa.1 - (x1 - x0) * (y1 - y0)) = sa.1 - (x1 - x0) * (y1 - y0) := IntWalk.i64_in _ (by omega)
            have w6 : IntKind.i64.wrap (sa.2 + (y1 - y0) * (y1 - y0)) = sa.2 + (y1 - y0) * (y1 - y0) := IntWalk.i64_in _ (by omega)
            have zA := fun Z => abs_any (y1 - y0) Z (by omega) (by omega)
            have zB := fun Z => abs_any (x1 - x0) Z (by omega) (by omega)
            have ZA := Lib.hid zA
            have ZB := Lib.hid zB
            clear hx3 zA zB g0 g1 g2 g3 b0 b1 b2 b3 u0 u1 u2 u3 v0 v1 v2 v3 P1
            by_cases hgt : (x1 - x0).natAbs < (y1 - y0).natAbs
            · have HU := Lib.hid (slA_yes (p := (x0, y0, t0)) (q := (x1, y1, t1)) (a := sa) hgt)
              have hgt2 : ((x1 - x0).natAbs : Int) < ((y1 - y0).natAbs : Int) := by omega
              go_wp2
              go_quiet (fail)
              go_wp2_with (first | (go_at_call 78; (first | with_reducible refine (ZA.out _).mono ?_ | with_reducible refine (ZB.out _).mono ?_); rintro e w' ⟨rfl, rfl⟩))
              exact ⟨⟨m + 1, by omega, by omega, by go_num, by rw [HT.out, HU.out], by rw [HT.out, HU.out], (by repeat (first | exact Below.refl _ _ | assumption | refine Below.drew ?_ | refine below_drewN ?_ _ | refine Below.alloc ?_ (by first | omega | (simp <;> omega)) _ | refine Below.setCell ?_ (by first | omega | (simp <;> omega)) _))⟩, by simp [intOf]; omega⟩
            · have HU := Lib.hid (slA_no (p := (x0, y0, t0)) (q := (x1, y1, t1)) (a := sa) hgt)
              have hgt2 : ¬ ((x1 - x0).natAbs : Int) < ((y1 - y0).natAbs : Int) := by omega
              go_wp2
              go_quiet (fail)
              go_wp2_with (first | (go_at_call 78; (first | with_reducible refine (ZA.out _).mono ?_ | with_reducible refine (ZB.out _).mono ?_); rintro e w' ⟨rfl, rfl⟩))
              exact ⟨⟨m + 1, by omega, by omega, by go_num, by rw [HT.out, HU.out], by rw [HT.out, HU.out], (by repeat (first | exact Below.refl _ _ | assumption | refine Below.drew ?_ | refine below_drewN ?_ _ | refine Below.alloc ?_ (by first | omega | (simp <;> omega)) _ | refine Below.setCell ?_ (by first | omega | (simp <;> omega)) _))⟩, by simp [intOf]; omega⟩
          · have hmn : m = n' := by omega
            subst hmn
            rw [hxl.out] at HS
            clear hx3 P1
            have hb9 := below_on hbi hba
            go_wp2
            exact ⟨⟨k + 1, by omega, by go_num, by rw [HS.out], by rw [HS.out], hb9⟩, by simp [intOf]; omega⟩
      · have hkn : k = n := by omega
        subst hkn
        clear hr K1 K0
        replace hB := below_on hb hB
        obtain ⟨sa, hsa⟩ : ∃ sa, slI xs k = sa := ⟨_, rfl⟩
        rw [hsa] at hbd
        rw [hsa]
        obtain ⟨d0, d1, d2, d3⟩ := hbd
        have o1 : IntKind.i64.wrap (256 * sa.1) = 256 * sa.1 := IntWalk.i64_in _ (by omega)
        by_cases hz : sa.2 = 0
        · have F := Lib.hid (sl_none Hok.out (by rw [hl.out, hsa]; exact hz))
          have hz2 : (sa.2 == 0) = true := by simp [hz]
          go_wp2
          go_ret2
          rw [F.out.1, F.out.2]
          exact ⟨rfl, hB⟩
        · have F := Lib.hid (sl_ok Hok.out (by rw [hl.out, hsa]; exact hz))
          rw [hl.out, hsa] at F
          have hz2 : (sa.2 == 0) = false := by simp [hz]
          go_wp2_with (first | (go_at_call 60; with_reducible refine (nearestDiv_any _ _ _ (by omega) (by omega) (by omega) (by omega)).mono ?_; rintro e w' ⟨rfl, rfl⟩))
          go_ret2
          rw [F.out.1, F.out.2]
          exact ⟨rfl, hB⟩
set_option maxRecDepth 100000 in
set_option maxHeartbeats 8000000 in
theorem sSlant_any (A : Option Addr) (n c : Nat) (xs : List (List T3)) (w : World) (hr : NL w w.heap.size A n c xs) (hn : totL xs ≤ 1048576) :
    Calls Try.prog 27 #[.agg #[.slice A n c]] w fun e w' => e = .returned (.tuple #[.int .i64 (slV xs), .int .i64 (slE xs)]) ∧ Below w.heap.size w w' := by
  have hl := Lib.hid hr.len
  go_enter Try.func27, Try.ntmps27
  go_wp2_with fail
  have K0 := Blk.new (w) 51 #[.slice A n c]
  have hbv : Below (w).heap.size (w) ((w).alloc (.cells #[.slice A n c] 51)) := (Below.refl _ _).alloc (Nat.le_refl _) _
  replace hr := hr.on hbv
  generalize (w).alloc (.cells #[.slice A n c] 51) = v at *
  with_reducible refine (l02Ok_ptr _ _ _ xs _ _ _ K0.cel hr hn).mono ?_
  rintro e w1 ⟨rfl, hbw1⟩
  have hB := below_on hbw1 hbv
  replace K0 := K0.on hbw1
  replace hr := hr.on hbw1
  cases hok : inkB xs with
  | false =>
    have F := sl_bad hok
    clear hr K0
    go_wp2
    go_ret2
    rw [F.1, F.2]
    exact ⟨rfl, hB⟩
  | true =>
    have Hok := Lib.hid hok
    have h16 := inkB_len hok
    rw [hl.out] at h16
    have hbd := slI_bd hok n (by rw [hl.out]; omega)
    go_wp2_with fail
    with_reducible refine (l07Slant_any _ _ _ xs _ _ _ K0.cel hr hok).mono ?_
    rintro e w2 ⟨rfl, hbw2⟩
    replace hB := below_on hbw2 hB
    clear hr K0 hok
    obtain ⟨sa, hsa⟩ : ∃ sa, slI xs n = sa := ⟨_, rfl⟩
    rw [hsa] at hbd
    rw [hsa]
    obtain ⟨d0, d1, d2, d3⟩ := hbd
    have o1 : IntKind.i64.wrap (256 * sa.1) = 256 * sa.1 := IntWalk.i64_in _ (by omega)
    by_cases hz : sa.2 = 0
    · have F := Lib.hid (sl_none Hok.out (by rw [hl.out, hsa]; exact hz))
      have hz2 : (sa.2 == 0) = true := by simp [hz]
      go_wp2
      go_ret2
      rw [F.out.1, F.out.2]
      exact ⟨rfl, hB⟩
    · have F := Lib.hid (sl_ok Hok.out (by rw [hl.out, hsa]; exact hz))
      rw [hl.out, hsa] at F
      have hz2 : (sa.2 == 0) = false := by simp [hz]
      go_wp2_with (first | (go_at_call 56; with_reducible refine (l05Near_any _ _ _ (by omega) (by omega) (by omega) (by omega)).mono ?_; rintro e w' ⟨rfl, rfl⟩))
      go_ret2
      rw [F.out.1, F.out.2]
      exact ⟨rfl, hB⟩
end Go.Proofs.Ytpmaiklooapnfaa
