/- CenterOf. -/
import Derived.Test.YtpmaiklooapnfaaIk
namespace Go.Proofs.Ytpmaiklooapnfaa
open Go.ChangeShapes Go.WideShapes Go.ChangeAt Go.RowKit
def psum (f : T3 → Int) (x : List T3) (k : Nat) : Int := ((x.take k).map f).sum
def isum (f : T3 → Int) (xs : List (List T3)) (k : Nat) : Int := ((xs.take k).map fun x => psum f x x.length).sum
theorem psum_zero (f : T3 → Int) (x : List T3) : psum f x 0 = 0 := rfl
theorem isum_zero (f : T3 → Int) (xs : List (List T3)) : isum f xs 0 = 0 := rfl
theorem psum_step {f : T3 → Int} {x : List T3} {k : Nat} {p : T3} (h : x[k]? = some p) : psum f x (k + 1) = psum f x k + f p := by unfold psum; rw [take_succ_of h]; simp
theorem isum_step {f : T3 → Int} {xs : List (List T3)} {k : Nat} {x : List T3} (h : xs[k]? = some x) : isum f xs (k + 1) = isum f xs k + psum f x x.length := by unfold isum; rw [take_succ_of h]; simp
theorem psum_bd {f : T3 → Int} {x : List T3} (h : ∀ p ∈ x, 0 ≤ f p ∧ f p ≤ 4095) : ∀ k, k ≤ x.length → 0 ≤ psum f x k ∧ psum f x k ≤ 4095 * k
  | 0, _ => by rw [psum_zero]; simp
  | k + 1, hk => by
    obtain ⟨h1, h2⟩ := psum_bd h k (by omega)
    have hx : x[k]? = some (x[k]'(by omega)) := List.getElem?_eq_getElem (by omega)
    have := h _ (List.mem_of_getElem? hx)
    rw [psum_step hx]; omega
theorem pt_bd {x : List T3} (h : strokeB x = true) : (∀ p ∈ x, 0 ≤ p.1 ∧ p.1 ≤ 4095) ∧ (∀ p ∈ x, 0 ≤ p.2.1 ∧ p.2.1 ≤ 4095) := by
  refine ⟨fun p hp => ?_, fun p hp => ?_⟩ <;>
    (obtain ⟨k, hk, rfl⟩ := List.mem_iff_getElem.1 hp
     have h1 := strokeB_at h (List.getElem?_eq_getElem hk)
     generalize x[k]'hk = p at *
     obtain ⟨a, b, t⟩ := p
     obtain ⟨⟨h1, h2⟩, ⟨h3, h4⟩, _, _⟩ := ptOk_iff.1 h1
     exact ⟨by assumption, by assumption⟩)
theorem isum_bd {f : T3 → Int} {xs : List (List T3)} (hi : inkB xs = true) (h : ∀ x, strokeB x = true → ∀ p ∈ x, 0 ≤ f p ∧ f p ≤ 4095) : ∀ k, k ≤ xs.length → 0 ≤ isum f xs k ∧ isum f xs k ≤ 245700 * k
  | 0, _ => by rw [isum_zero]; simp
  | k + 1, hk => by
    obtain ⟨h1, h2⟩ := isum_bd hi h k (by omega)
    have hx : xs[k]? = some (xs[k]'(by omega)) := List.getElem?_eq_getElem (by omega)
    have hs := inkB_at hi hx
    have h3 := psum_bd (h _ hs) _ (Nat.le_refl _)
    have h4 := strokeB_len hs
    rw [isum_step hx]; omega
theorem cnt_bd {xs : List (List T3)} (hi : inkB xs = true) : ∀ k, k ≤ xs.length → k ≤ preL xs k ∧ preL xs k ≤ 60 * k
  | 0, _ => by rw [preL_zero]; omega
  | k + 1, hk => by
    obtain ⟨h1, h2⟩ := cnt_bd hi k (by omega)
    have hx : xs[k]? = some (xs[k]'(by omega)) := List.getElem?_eq_getElem (by omega)
    have h4 := strokeB_len (inkB_at hi hx)
    rw [preL_step hx]; omega
def pX (p : T3) : Int := p.1
def pY (p : T3) : Int := p.2.1
def cntV (xs : List (List T3)) : Int := if inkB xs = true then (preL xs xs.length : Int) else 0
def ctE (xs : List (List T3)) : Int := if inkB xs = true then (if xs.length = 0 then 6 else 0) else 1
def ctV (xs : List (List T3)) : T2 := if inkB xs = true ∧ xs.length ≠ 0 then (nearD (isum pX xs xs.length) (preL xs xs.length), nearD (isum pY xs xs.length) (preL xs xs.length)) else (0, 0)
theorem ct_bad {xs : List (List T3)} (h : inkB xs = false) : ctV xs = (0, 0) ∧ ctE xs = 1 := by unfold ctV ctE; rw [h]; exact ⟨rfl, rfl⟩
theorem ct_none {xs : List (List T3)} (h : inkB xs = true) (h2 : xs.length = 0) : ctV xs = (0, 0) ∧ ctE xs = 6 := by unfold ctV ctE; rw [h, h2]; exact ⟨rfl, rfl⟩
theorem ct_ok {xs : List (List T3)} (h : inkB xs = true) (h2 : xs.length ≠ 0) : ctV xs = (nearD (isum pX xs xs.length) (preL xs xs.length), nearD (isum pY xs xs.length) (preL xs xs.length)) ∧ ctE xs = 0 := by unfold ctV ctE; rw [h, if_pos ⟨rfl, h2⟩, if_pos rfl, if_neg h2]; exact ⟨rfl, rfl⟩
set_option maxRecDepth 100000 in
set_option maxHeartbeats 4000000 in
theorem pointCount_any (A : Option Addr) (n c : Nat) (xs : List (List T3)) (w : World) (hr : NL w w.heap.size A n c xs) (hn : totL xs ≤ 1048576) :
    Calls Try.prog 81 #[.agg #[.slice A n c]] w fun e w' => e = .returned (.tuple #[.int .i64 (cntV xs), .int .i64 (okE (inkB xs))]) ∧ Below w.heap.size w w' := by
  have hl := Lib.hid hr.len
  go_enter Try.func81, Try.ntmps81
  go_wp2_with fail
  have K0 := Blk.new (w) 51 #[.slice A n c]
  have hbv : Below (w).heap.size (w) ((w).alloc (.cells #[.slice A n c] 51)) := (Below.refl _ _).alloc (Nat.le_refl _) _
  replace hr := hr.on hbv
  generalize (w).alloc (.cells #[.slice A n c] 51) = v at *
  have e0 := K0.cell 0
  simp only [List.getElem?_toArray, List.getElem?_cons_zero] at e0
  go_wp2_with fail
  with_reducible refine (iValidInk_any _ _ _ xs _ hr hn).mono ?_
  rintro e w1 ⟨rfl, hbw1⟩
  have hB := below_on hbw1 hbv
  replace K0 := K0.on hbw1
  replace hr := hr.on hbw1
  clear e0
  have e0 := K0.cell 0
  simp only [List.getElem?_toArray, List.getElem?_cons_zero] at e0
  have HR := Lib.hid hr
  clear hr
  cases hok : inkB xs with
  | false =>
    have F : Hid (cntV xs = 0) := by show _ = _; unfold cntV; rw [hok]; rfl
    go_wp2
    go_ret2
    rw [F.out, show okE (inkB xs) = 1 by rw [hok]; rfl]
    exact ⟨rfl, hB⟩
  | true =>
    have Hok := Lib.hid hok
    have h16 := inkB_len hok
    rw [hl.out] at h16
    have F : Hid (cntV xs = preL xs n) := by show _ = _; unfold cntV; rw [hok, hl.out]; rfl
    go_wp2
    clear e0 hok
    have hr := HR.out
    clear HR
    go_loopw [4, 13] (fun s i wr => ∃ k : Nat, k ≤ n ∧ i = .int .i64 k ∧ s = .int .i64 (preL xs k : Nat) ∧ Below w1.heap.size w1 wr) (fun _ i _ => n - (intOf i).toNat)
    case atStart => exact ⟨0, by omega, rfl, rfl, Below.refl _ _⟩
    case round =>
      obtain ⟨k, hk, rfl, rfl, hb⟩ := hrel
      by_cases hlt : k < n
      · obtain ⟨b, off, A', n', c', x, rfl, hbl, hx, q0, hx3⟩ := (hr.on hb).at_ hlt
        have i1 : (k : Int) < (n : Int) := by omega
        have i2 : (0 : Int) ≤ (k : Int) := by omega
        have hst := preL_step hx.out
        have hbd := (cnt_bd Hok.out (k + 1) (by rw [hl.out]; omega)).2
        rw [hst, hx3.len] at hbd
        rw [hx3.len] at hst
        have HS := Lib.hid hst
        have hsz := hb.size
        clear hr hx3 hst
        have o1 : IntKind.i64.wrap ((preL xs k : Int) + (n' : Int)) = (preL xs k : Int) + (n' : Int) := IntWalk.i64_in _ (by omega)
        go_wp2
        exact ⟨⟨k + 1, by omega, by go_num, by rw [HS.out]; congr 1, (by repeat (first | exact Below.refl _ _ | assumption | refine Below.drew ?_ | refine below_drewN ?_ _ | refine Below.alloc ?_ (by first | omega | (simp <;> omega)) _ | refine Below.setCell ?_ (by first | omega | (simp <;> omega)) _))⟩, by simp [intOf]; omega⟩
      · have hkn : k = n := by omega
        subst hkn
        clear hr K0
        go_wp2
        go_ret2
        rw [F.out, show okE (inkB xs) = 0 by rw [Hok.out]; rfl]
        exact ⟨rfl, below_on hb hB⟩
set_option maxRecDepth 100000 in
set_option maxHeartbeats 4000000 in
theorem l02Count_any (A : Option Addr) (n c : Nat) (xs : List (List T3)) (w : World) (g0 oo : Nat) (K0 : Cel w g0 oo (.slice A n c)) (hr : NL w w.heap.size A n c xs) (hok : inkB xs = true) :
    Calls Try.prog 80 #[.pointer (some ⟨g0, oo, none⟩)] w fun e w' => e = .returned (.int .i64 (preL xs n : Nat)) ∧ Below w.heap.size w w' := by
  have hl := Lib.hid hr.len
  have h16 := inkB_len hok
  rw [hl.out] at h16
  have Hok := Lib.hid hok
  clear hok
  go_enter Try.func80, Try.ntmps80
  go_wp2_with fail
  go_loopw [3, 4] (fun s i wr => ∃ k : Nat, k ≤ n ∧ i = .int .i64 k ∧ s = .int .i64 (preL xs k : Nat) ∧ Below w.heap.size w wr) (fun _ i _ => n - (intOf i).toNat)
  case atStart => exact ⟨0, by omega, rfl, rfl, Below.refl _ _⟩
  case round =>
    obtain ⟨k, hk, rfl, rfl, hb⟩ := hrel
    have K1 := K0.on hb
    have e0 := K1.cell
    by_cases hlt : k < n
    · obtain ⟨b, off, A', n', c', x, rfl, hbl, hx, q0, hx3⟩ := (hr.on hb).at_ hlt
      have i1 : (k : Int) < (n : Int) := by omega
      have i2 : (0 : Int) ≤ (k : Int) := by omega
      have hst := preL_step hx.out
      have hbd := (cnt_bd Hok.out (k + 1) (by rw [hl.out]; omega)).2
      rw [hst, hx3.len] at hbd
      rw [hx3.len] at hst
      have HS := Lib.hid hst
      clear hr hx3 hst K1
      have o1 : IntKind.i64.wrap ((preL xs k : Int) + (n' : Int)) = (preL xs k : Int) + (n' : Int) := IntWalk.i64_in _ (by omega)
      go_wp2
      exact ⟨⟨k + 1, by omega, by go_num, by rw [HS.out]; congr 1, (by repeat (first | exact Below.refl _ _ | assumption | refine Below.drew ?_ | refine below_drewN ?_ _ | refine Below.alloc ?_ (by first | omega | (simp <;> omega)) _ | refine Below.setCell ?_ (by first | omega | (simp <;> omega)) _))⟩, by simp [intOf]; omega⟩
    · have hkn : k = n := by omega
      subst hkn
      clear hr K1
      go_wp2
      go_ret
      exact ⟨rfl, hb⟩
set_option maxRecDepth 100000 in
set_option maxHeartbeats 8000000 in
theorem iCenter_any (A : Option Addr) (n c : Nat) (xs : List (List T3)) (w : World) (hr : NL w w.heap.size A n c xs) (hn : totL xs ≤ 1048576) :
    Calls Try.prog 32 #[.agg #[.slice A n c]] w fun e w' => e = .returned (.tuple #[.agg #[.int .i64 (ctV xs).1, .int .i64 (ctV xs).2], .int .i64 (ctE xs)]) ∧ Below w.heap.size w w' := by
  have K0 : Blk ((w.alloc (.cells #[.slice A n c] 51)).alloc (.cells #[.int .i64 0, .int .i64 0] 38)) w.heap.size 51 #[.slice A n c] := (Blk.new _ _ _).alloc _
  have R0 : Blk ((w.alloc (.cells #[.slice A n c] 51)).alloc (.cells #[.int .i64 0, .int .i64 0] 38)) (w.heap.size + 1) 38 #[.int .i64 0, .int .i64 0] := by have h := Blk.new (w.alloc (.cells #[.slice A n c] 51)) 38 #[.int .i64 0, .int .i64 0]; simpa using h
  have hB : Below w.heap.size w ((w.alloc (.cells #[.slice A n c] 51)).alloc (.cells #[.int .i64 0, .int .i64 0] 38)) := (by repeat (first | exact Below.refl _ _ | assumption | refine Below.drew ?_ | refine below_drewN ?_ _ | refine Below.alloc ?_ (by first | omega | (simp <;> omega)) _ | refine Below.setCell ?_ (by first | omega | (simp <;> omega)) _))
  have HR := Lib.hid hr
  have hl := Lib.hid hr.len
  go_enter Try.func32, Try.ntmps32
  go_wp2_with fail
  generalize (w.alloc (.cells #[.slice A n c] 51)).alloc (.cells #[.int .i64 0, .int .i64 0] 38) = v at *
  have e0 := K0.cell 0
  simp only [List.getElem?_toArray, List.getElem?_cons_zero] at e0
  go_wp2_with fail
  with_reducible refine (pointCount_any _ _ _ xs _ (hr.on hB) hn).mono ?_
  rintro e w1 ⟨rfl, hbw1⟩
  clear e0
  replace R0 := R0.on hbw1
  replace K0 := K0.on hbw1
  replace hB := below_on hbw1 hB
  clear hr hbw1
  obtain ⟨j0, j1, f0, f1, zr⟩ := R0.two
  cases hok : inkB xs with
  | false =>
    have F := ct_bad hok
    have hc : Hid (cntV xs = 0) := by show _ = _; unfold cntV; rw [hok]; rfl
    rw [hc.out, show okE false = 1 from rfl]
    go_wp2
    rw [F.1, F.2]
    exact bodyPost_ret (v := .tuple #[.agg #[.int .i64 0, .int .i64 0], .int .i64 1]) (by simp [results, Try.results32, go_sem, j0, j1]) rfl ⟨rfl, (by repeat (first | exact Below.refl _ _ | assumption | refine Below.drew ?_ | refine below_drewN ?_ _ | refine Below.alloc ?_ (by first | omega | (simp <;> omega)) _ | refine Below.setCell ?_ (by first | omega | (simp <;> omega)) _))⟩
  | true =>
    have Hok := Lib.hid hok
    have h16 := inkB_len hok
    rw [hl.out] at h16
    have hc : Hid (cntV xs = (preL xs n : Nat)) := by show _ = _; unfold cntV; rw [hok, hl.out]; rfl
    rw [hc.out, show okE true = 0 from rfl]
    by_cases hz : n = 0
    · have F := ct_none hok (by rw [hl.out]; exact hz)
      subst hz
      rw [preL_zero]
      have e0 := K0.cell 0
      simp only [List.getElem?_toArray, List.getElem?_cons_zero] at e0
      go_wp2
      rw [F.1, F.2]
      exact bodyPost_ret (v := .tuple #[.agg #[.int .i64 0, .int .i64 0], .int .i64 6]) (by simp [results, Try.results32, go_sem, j0, j1]) rfl ⟨rfl, (by repeat (first | exact Below.refl _ _ | assumption | refine Below.drew ?_ | refine below_drewN ?_ _ | refine Below.alloc ?_ (by first | omega | (simp <;> omega)) _ | refine Below.setCell ?_ (by first | omega | (simp <;> omega)) _))⟩
    · have F := Lib.hid (ct_ok hok (by rw [hl.out]; exact hz))
      obtain ⟨c1, c2'⟩ := cnt_bd hok n (by rw [hl.out]; exact Nat.le_refl _)
      obtain ⟨cn, hcn⟩ : ∃ cn, preL xs n = cn := ⟨_, rfl⟩
      have HC := Lib.hid hcn
      rw [hcn] at c1 c2'
      rw [hcn]
      have z1 : ¬ (cn : Int) = 0 := by omega
      have z2 : ¬ (n : Int) = 0 := by omega
      have z3 : ((cn : Int) == 0) = false := by simp; omega
      have z4 : ((n : Int) == 0) = false := by simp; omega
      have e0 := K0.cell 0
      simp only [List.getElem?_toArray, List.getElem?_cons_zero] at e0
      have hr := Lib.hid (HR.out.on hB)
      clear hok j0 j1 f0 f1 hcn
      go_wp2
      clear e0
      go_loopw [6, 7, 27] (fun p q i wr => ∃ k : Nat, k ≤ n ∧ i = .int .i64 k ∧ p = .int .i64 (isum pX xs k) ∧ q = .int .i64 (isum pY xs k) ∧ Below w1.heap.size w1 wr) (fun _ _ i _ => n - (intOf i).toNat)
      case atStart => exact ⟨0, by omega, rfl, rfl, rfl, Below.refl _ _⟩
      case round =>
        obtain ⟨k, hk, rfl, rfl, rfl, hb⟩ := hrel
        obtain ⟨b0, b1⟩ := isum_bd (f := pX) Hok.out (fun x h => (pt_bd h).1) k (by rw [hl.out]; omega)
        obtain ⟨b2, b3⟩ := isum_bd (f := pY) Hok.out (fun x h => (pt_bd h).2) k (by rw [hl.out]; omega)
        have K1 := K0.on hb
        skip
        by_cases hlt : k < n
        · obtain ⟨b, off, A', n', c', x, rfl, hbl, hx, q0, hx3⟩ := (hr.out.on hb).at_ hlt
          have i1 : (k : Int) < (n : Int) := by omega
          have i2 : (0 : Int) ≤ (k : Int) := by omega
          have hs := inkB_at Hok.out hx.out
          have hsl := strokeB_len hs
          have hxl := Lib.hid hx3.len
          rw [hxl.out] at hsl
          have HX := Lib.hid hx3
          clear hx3 K1
          go_wp2
          have P0 := Blk.new (wr) 28 #[.slice A' n' c']
          have hbwa : Below (wr).heap.size (wr) ((wr).alloc (.cells #[.slice A' n' c'] 28)) := (Below.refl _ _).alloc (Nat.le_refl _) _
          generalize (wr).alloc (.cells #[.slice A' n' c'] 28) = wa at *
          have hba := below_on hbwa hb
          have hx3 := HX.out.on hbwa
          clear q0 P0 HX
          go_loopw [6, 7, 34] (fun p q i wi => ∃ m : Nat, m ≤ n' ∧ i = .int .i64 m ∧ p = .int .i64 (isum pX xs k + psum pX x m) ∧ q = .int .i64 (isum pY xs k + psum pY x m) ∧ Below wa.heap.size wa wi) (fun _ _ i _ => n' - (intOf i).toNat)
          case atStart => exact ⟨0, by omega, rfl, by rw [psum_zero, Int.add_zero], by rw [psum_zero, Int.add_zero], Below.refl _ _⟩
          case round =>
            obtain ⟨m, hm, rfl, rfl, rfl, hbi⟩ := hrel
            obtain ⟨d0, d1⟩ := psum_bd (f := pX) (pt_bd hs).1 m (by rw [hxl.out]; omega)
            obtain ⟨d2, d3⟩ := psum_bd (f := pY) (pt_bd hs).2 m (by rw [hxl.out]; omega)
            by_cases hlm : m < n'
            · obtain ⟨bb, of2, p0, p1, p2, rfl, hbl3, hp, r0, r1, r2⟩ := (hx3.on hbi).at3 hlm
              have i3 : (m : Int) < (n' : Int) := by omega
              have i4 : (0 : Int) ≤ (m : Int) := by omega
              obtain ⟨⟨u0, u1⟩, ⟨u2, u3⟩, _, _⟩ := ptOk_iff.1 (strokeB_at hs hp.out)
              have hsz := hbi.size
              have S1 : Hid (psum pX x (m + 1) = psum pX x m + p0) := psum_step hp.out
              have S2 : Hid (psum pY x (m + 1) = psum pY x m + p1) := psum_step hp.out
              have o1 : IntKind.i64.wrap (isum pX xs k + psum pX x m + p0) = isum pX xs k + psum pX x m + p0 := IntWalk.i64_in _ (by omega)
              have o2 : IntKind.i64.wrap (isum pY xs k + psum pY x m + p1) = isum pY xs k + psum pY x m + p1 := IntWalk.i64_in _ (by omega)
              clear hx3
              go_wp2
              exact ⟨⟨m + 1, by omega, by go_num, by rw [S1.out]; congr 1; omega, by rw [S2.out]; congr 1; omega, (by repeat (first | exact Below.refl _ _ | assumption | refine Below.drew ?_ | refine below_drewN ?_ _ | refine Below.alloc ?_ (by first | omega | (simp <;> omega)) _ | refine Below.setCell ?_ (by first | omega | (simp <;> omega)) _))⟩, by simp [intOf]; omega⟩
            · have hmn : m = n' := by omega
              subst hmn
              have S1 : Hid (isum pX xs (k + 1) = isum pX xs k + psum pX x m) := by show _ = _; rw [isum_step hx.out, hxl.out]
              have S2 : Hid (isum pY xs (k + 1) = isum pY xs k + psum pY x m) := by show _ = _; rw [isum_step hx.out, hxl.out]
              clear hx3
              have hb9 := below_on hbi hba
              go_wp2
              exact ⟨⟨k + 1, by omega, by go_num, by rw [S1.out], by rw [S2.out], hb9⟩, by simp [intOf]; omega⟩
        · have hkn : k = n := by omega
          subst hkn
          replace R0 := R0.on hb
          replace hB := below_on hb hB
          have HM : Hid (ctV xs = (nearD (isum pX xs k) (cn : Int), nearD (isum pY xs k) (cn : Int))) := by show _ = _; rw [F.out.1, hl.out, HC.out]
          obtain ⟨ix, hix⟩ : ∃ ix, isum pX xs k = ix := ⟨_, rfl⟩
          obtain ⟨iy, hiy⟩ : ∃ iy, isum pY xs k = iy := ⟨_, rfl⟩
          rw [hix, hiy] at HM
          rw [hix] at b0 b1
          rw [hiy] at b2 b3
          try rw [hix, hiy]
          obtain ⟨j0, j1, f0, f1, zr⟩ := R0.two
          clear K1
          go_wp2_with (first | (go_at_call 60; with_reducible refine (nearestDiv_any _ _ _ (by omega) (by omega) (by omega) (by omega)).mono ?_; rintro e w' ⟨rfl, rfl⟩))
          rw [HM.out, F.out.2]
          exact bodyPost_ret (v := .tuple #[.agg #[.int .i64 (nearD ix cn), .int .i64 (nearD iy cn)], .int .i64 0]) (by simp [results, Try.results32, go_sem, j0, j1]) rfl ⟨rfl, (by repeat (first | exact Below.refl _ _ | assumption | refine Below.drew ?_ | refine below_drewN ?_ _ | refine Below.alloc ?_ (by first | omega | (simp <;> omega)) _ | refine Below.setCell ?_ (by first | omega | (simp <;> omega)) _))⟩
set_option maxRecDepth 100000 in
set_option maxHeartbeats 8000000 in
theorem sCenter_any (A : Option Addr) (n c : Nat) (xs : List (List T3)) (w : World) (hr : NL w w.heap.size A n c xs) (hn : totL xs ≤ 1048576) :
    Calls Try.prog 31 #[.agg #[.slice A n c]] w fun e w' => e = .returned (.tuple #[.agg #[.int .i64 (ctV xs).1, .int .i64 (ctV xs).2], .int .i64 (ctE xs)]) ∧ Below w.heap.size w w' := by
  have K0 : Blk ((w.alloc (.cells #[.slice A n c] 51)).alloc (.cells #[.int .i64 0, .int .i64 0] 38)) w.heap.size 51 #[.slice A n c] := (Blk.new _ _ _).alloc _
  have R0 : Blk ((w.alloc (.cells #[.slice A n c] 51)).alloc (.cells #[.int .i64 0, .int .i64 0] 38)) (w.heap.size + 1) 38 #[.int .i64 0, .int .i64 0] := by have h := Blk.new (w.alloc (.cells #[.slice A n c] 51)) 38 #[.int .i64 0, .int .i64 0]; simpa using h
  have hB : Below w.heap.size w ((w.alloc (.cells #[.slice A n c] 51)).alloc (.cells #[.int .i64 0, .int .i64 0] 38)) := (by repeat (first | exact Below.refl _ _ | assumption | refine Below.drew ?_ | refine below_drewN ?_ _ | refine Below.alloc ?_ (by first | omega | (simp <;> omega)) _ | refine Below.setCell ?_ (by first | omega | (simp <;> omega)) _))
  have HR := Lib.hid hr
  have hl := Lib.hid hr.len
  go_enter Try.func31, Try.ntmps31
  go_wp2_with fail
  generalize (w.alloc (.cells #[.slice A n c] 51)).alloc (.cells #[.int .i64 0, .int .i64 0] 38) = v at *
  skip
  skip
  with_reducible refine (l02Ok_ptr _ _ _ xs _ _ _ K0.cel (hr.on hB) hn).mono ?_
  rintro e w1 ⟨rfl, hbw1⟩
  skip
  replace R0 := R0.on hbw1
  replace K0 := K0.on hbw1
  replace hB := below_on hbw1 hB
  clear hr hbw1
  obtain ⟨j0, j1, f0, f1, zr⟩ := R0.two
  cases hok : inkB xs with
  | false =>
    have F := ct_bad hok
    skip
    skip
    go_wp2
    rw [F.1, F.2]
    exact bodyPost_ret (v := .tuple #[.agg #[.int .i64 0, .int .i64 0], .int .i64 1]) (by simp [results, Try.results31, go_sem, j0, j1]) rfl ⟨rfl, (by repeat (first | exact Below.refl _ _ | assumption | refine Below.drew ?_ | refine below_drewN ?_ _ | refine Below.alloc ?_ (by first | omega | (simp <;> omega)) _ | refine Below.setCell ?_ (by first | omega | (simp <;> omega)) _))⟩
  | true =>
    have Hok := Lib.hid hok
    have h16 := inkB_len hok
    rw [hl.out] at h16
    skip
    skip
    by_cases hz : n = 0
    · have F := ct_none hok (by rw [hl.out]; exact hz)
      subst hz
      skip
      have e0 := K0.cell 0
      simp only [List.getElem?_toArray, List.getElem?_cons_zero] at e0
      go_wp2
      rw [F.1, F.2]
      exact bodyPost_ret (v := .tuple #[.agg #[.int .i64 0, .int .i64 0], .int .i64 6]) (by simp [results, Try.results31, go_sem, j0, j1]) rfl ⟨rfl, (by repeat (first | exact Below.refl _ _ | assumption | refine Below.drew ?_ | refine below_drewN ?_ _ | refine Below.alloc ?_ (by first | omega | (simp <;> omega)) _ | refine Below.setCell ?_ (by first | omega | (simp <;> omega)) _))⟩
    · have F := Lib.hid (ct_ok hok (by rw [hl.out]; exact hz))
      obtain ⟨c1, c2'⟩ := cnt_bd hok n (by rw [hl.out]; exact Nat.le_refl _)
      obtain ⟨cn, hcn⟩ : ∃ cn, preL xs n = cn := ⟨_, rfl⟩
      have HC := Lib.hid hcn
      rw [hcn] at c1 c2'
      skip
      have z1 : ¬ (cn : Int) = 0 := by omega
      have z2 : ¬ (n : Int) = 0 := by omega
      have z3 : ((cn : Int) == 0) = false := by simp; omega
      have z4 : ((n : Int) == 0) = false := by simp; omega
      have e0 := K0.cell 0
      simp only [List.getElem?_toArray, List.getElem?_cons_zero] at e0
      have hr := Lib.hid (HR.out.on hB)
      clear hok j0 j1 f0 f1 hcn
      go_wp2
      clear e0
      go_loopw [4, 5, 6] (fun p q i wr => ∃ k : Nat, k ≤ n ∧ i = .int .i64 k ∧ p = .int .i64 (isum pX xs k) ∧ q = .int .i64 (isum pY xs k) ∧ Below w1.heap.size w1 wr) (fun _ _ i _ => n - (intOf i).toNat)
      case atStart => exact ⟨0, by omega, rfl, rfl, rfl, Below.refl _ _⟩
      case round =>
        obtain ⟨k, hk, rfl, rfl, rfl, hb⟩ := hrel
        obtain ⟨b0, b1⟩ := isum_bd (f := pX) Hok.out (fun x h => (pt_bd h).1) k (by rw [hl.out]; omega)
        obtain ⟨b2, b3⟩ := isum_bd (f := pY) Hok.out (fun x h => (pt_bd h).2) k (by rw [hl.out]; omega)
        have K1 := K0.on hb
        have e0 := K1.cell 0
        simp only [List.getElem?_toArray, List.getElem?_cons_zero] at e0
        by_cases hlt : k < n
        · obtain ⟨b, off, A', n', c', x, rfl, hbl, hx, q0, hx3⟩ := (hr.out.on hb).at_ hlt
          have i1 : (k : Int) < (n : Int) := by omega
          have i2 : (0 : Int) ≤ (k : Int) := by omega
          have hs := inkB_at Hok.out hx.out
          have hsl := strokeB_len hs
          have hxl := Lib.hid hx3.len
          rw [hxl.out] at hsl
          have HX := Lib.hid hx3
          clear hx3 K1
          go_wp2
          have hba := hb
          have hx3 := HX.out
          clear q0 HX e0
          go_loopw [4, 5, 8] (fun p q i wi => ∃ m : Nat, m ≤ n' ∧ i = .int .i64 m ∧ p = .int .i64 (isum pX xs k + psum pX x m) ∧ q = .int .i64 (isum pY xs k + psum pY x m) ∧ Below wr.heap.size wr wi) (fun _ _ i _ => n' - (intOf i).toNat)
          case atStart => exact ⟨0, by omega, rfl, by rw [psum_zero, Int.add_zero], by rw [psum_zero, Int.add_zero], Below.refl _ _⟩
          case round =>
            obtain ⟨m, hm, rfl, rfl, rfl, hbi⟩ := hrel
            obtain ⟨d0, d1⟩ := psum_bd (f := pX) (pt_bd hs).1 m (by rw [hxl.out]; omega)
            obtain ⟨d2, d3⟩ := psum_bd (f := pY) (pt_bd hs).2 m (by rw [hxl.out]; omega)
            by_cases hlm : m < n'
            · obtain ⟨bb, of2, p0, p1, p2, rfl, hbl3, hp, r0, r1, r2⟩ := (hx3.on hbi).at3 hlm
              have i3 : (m : Int) < (n' : Int) := by omega
              have i4 : (0 : Int) ≤ (m : Int) := by omega
              obtain ⟨⟨u0, u1⟩, ⟨u2, u3⟩, _, _⟩ := ptOk_iff.1 (strokeB_at hs hp.out)
              have hsz := hbi.size
              have S1 : Hid (psum pX x (m + 1) = psum pX x m + p0) := psum_step hp.out
              have S2 : Hid (psum pY x (m + 1) = psum pY x m + p1) := psum_step hp.out
              have o1 : IntKind.i64.wrap (isum pX xs k + psum pX x m + p0) = isum pX xs k + psum pX x m + p0 := IntWalk.i64_in _ (by omega)
              have o2 : IntKind.i64.wrap (isum pY xs k + psum pY x m + p1) = isum pY xs k + psum pY x m + p1 := IntWalk.i64_in _ (by omega)
              clear hx3
              go_wp2
              exact ⟨⟨m + 1, by omega, by go_num, by rw [S1.out]; congr 1; omega, by rw [S2.out]; congr 1; omega, (by repeat (first | exact Below.refl _ _ | assumption | refine Below.drew ?_ | refine below_drewN ?_ _ | refine Below.alloc ?_ (by first | omega | (simp <;> omega)) _ | refine Below.setCell ?_ (by first | omega | (simp <;> omega)) _))⟩, by simp [intOf]; omega⟩
            · have hmn : m = n' := by omega
              subst hmn
              have S1 : Hid (isum pX xs (k + 1) = isum pX xs k + psum pX x m) := by show _ = _; rw [isum_step hx.out, hxl.out]
              have S2 : Hid (isum pY xs (k + 1) = isum pY xs k + psum pY x m) := by show _ = _; rw [isum_step hx.out, hxl.out]
              clear hx3
              have hb9 := below_on hbi hba
              go_wp2
              exact ⟨⟨k + 1, by omega, by go_num, by rw [S1.out], by rw [S2.out], hb9⟩, by simp [intOf]; omega⟩
        · have hkn : k = n := by omega
          subst hkn
          replace R0 := R0.on hb
          replace hB := below_on hb hB
          have hr9 := hr.out.on hb
          go_wp2_with fail
          with_reducible refine (l02Count_any _ _ _ xs _ _ _ K1.cel hr9 Hok.out).mono ?_
          rintro e w4 ⟨rfl, hbw4⟩
          rw [HC.out]
          replace R0 := R0.on hbw4
          replace hB := below_on hbw4 hB
          clear hr9 e0
          have HM : Hid (ctV xs = (nearD (isum pX xs k) (cn : Int), nearD (isum pY xs k) (cn : Int))) := by show _ = _; rw [F.out.1, hl.out, HC.out]
          obtain ⟨ix, hix⟩ : ∃ ix, isum pX xs k = ix := ⟨_, rfl⟩
          obtain ⟨iy, hiy⟩ : ∃ iy, isum pY xs k = iy := ⟨_, rfl⟩
          rw [hix, hiy] at HM
          rw [hix] at b0 b1
          rw [hiy] at b2 b3
          try rw [hix, hiy]
          obtain ⟨j0, j1, f0, f1, zr⟩ := R0.two
          clear K1
          go_wp2_with (first | (go_at_call 56; with_reducible refine (l05Near_any _ _ _ (by omega) (by omega) (by omega) (by omega)).mono ?_; rintro e w' ⟨rfl, rfl⟩))
          rw [HM.out, F.out.2]
          exact bodyPost_ret (v := .tuple #[.agg #[.int .i64 (nearD ix cn), .int .i64 (nearD iy cn)], .int .i64 0]) (by simp [results, Try.results31, go_sem, j0, j1]) rfl ⟨rfl, (by repeat (first | exact Below.refl _ _ | assumption | refine Below.drew ?_ | refine below_drewN ?_ _ | refine Below.alloc ?_ (by first | omega | (simp <;> omega)) _ | refine Below.setCell ?_ (by first | omega | (simp <;> omega)) _))⟩
end Go.Proofs.Ytpmaiklooapnfaa
