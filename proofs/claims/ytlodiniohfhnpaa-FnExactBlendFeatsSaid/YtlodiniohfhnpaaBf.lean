/- BlendFeats. -/
import Derived.Test.YtlodiniohfhnpaaPc
import Derived.Test.YtlodiniohfhnpaaNd
import Derived.Test.YtlodiniohfhnpaaPk
import Derived.Test.YtlodiniohfhnpaaDc
import Derived.Deep.RegionHeld3
import Derived.StillTailTactics
import Derived.IntWalk
namespace Go.Proofs.Ytlodiniohfhnpaa
open Go.ChangeShapes Go.WideShapes Go.ChangeAt Go.RowKit
def gX (f : T3) : Int := f.1
def gY (f : T3) : Int := f.2.1
def blS (g : T3 → Int) (b : List T3) (p : List T2) (i : Int) : Nat → Int
  | 0 => 0
  | r + 1 => if (at0 p r).1 = i then blS g b p i r + g (nth3 b (at0 p r).2) else blS g b p i r
def blC (p : List T2) (i : Int) : Nat → Int
  | 0 => 0
  | r + 1 => if (at0 p r).1 = i then blC p i r + 1 else blC p i r
theorem blS_yes {g : T3 → Int} {b : List T3} {p : List T2} {i : Int} {r : Nat} {x y : Int} {q : T3} (h : p[r]? = some (x, y)) (hi : x = i) (hq : nth3 b y = q) : blS g b p i (r + 1) = blS g b p i r + g q := by rw [blS, at0_of h, if_pos hi, hq]
theorem blS_no {g : T3 → Int} {b : List T3} {p : List T2} {i : Int} {r : Nat} {x y : Int} (h : p[r]? = some (x, y)) (hi : ¬ x = i) : blS g b p i (r + 1) = blS g b p i r := by rw [blS, at0_of h, if_neg hi]
theorem blC_yes {p : List T2} {i : Int} {r : Nat} {x y : Int} (h : p[r]? = some (x, y)) (hi : x = i) : blC p i (r + 1) = blC p i r + 1 := by rw [blC, at0_of h, if_pos hi]
theorem blC_no {p : List T2} {i : Int} {r : Nat} {x y : Int} (h : p[r]? = some (x, y)) (hi : ¬ x = i) : blC p i (r + 1) = blC p i r := by rw [blC, at0_of h, if_neg hi]
theorem blS_bd {g : T3 → Int} {b : List T3} {p : List T2} {i : Int} (h : ∀ (r : Nat) (x y : Int), p[r]? = some (x, y) → 0 ≤ g (nth3 b y) ∧ g (nth3 b y) ≤ 255) : ∀ r, r ≤ p.length → 0 ≤ blS g b p i r ∧ blS g b p i r ≤ 255 * r
  | 0, _ => by simp [blS]
  | r + 1, hr => by
    obtain ⟨h1, h2⟩ := blS_bd h r (by omega) (i := i)
    have hx : p[r]? = some (p[r]'(by omega)) := List.getElem?_eq_getElem (by omega)
    generalize p[r]'(by omega) = q at hx
    obtain ⟨x, y⟩ := q
    have := h r x y hx
    rw [blS, at0_of hx]; simp only; split <;> omega
theorem blC_bd {p : List T2} {i : Int} : ∀ r, 0 ≤ blC p i r ∧ blC p i r ≤ r
  | 0 => by simp [blC]
  | r + 1 => by
    obtain ⟨h1, h2⟩ := blC_bd r (p := p) (i := i)
    rw [blC]; split <;> omega
theorem blC_mono {p : List T2} {i : Int} {r : Nat} : ∀ {s : Nat}, r ≤ s → blC p i r ≤ blC p i s
  | 0, h => by rw [show r = 0 by omega]; exact Int.le_refl _
  | s + 1, h => by
    by_cases hs : r = s + 1
    · rw [hs]; exact Int.le_refl _
    · have := blC_mono (p := p) (i := i) (show r ≤ s by omega)
      rw [blC]; split <;> omega
theorem blC_pos {p : List T2} {i : Int} {r s : Nat} (hr : r < s) (h : (at0 p r).1 = i) : 1 ≤ blC p i s := by
  have h1 : blC p i (r + 1) = blC p i r + 1 := by rw [blC, if_pos h]
  have h2 := (blC_bd (p := p) (i := i) r).1
  have := blC_mono (p := p) (i := i) (show r + 1 ≤ s by omega)
  omega
/-- A path meets every element of the first list. -/
theorem path_meets {xs : List T2} (h0 : at0 xs 0 = (0, 0)) (hs : ∀ k, k + 1 < xs.length → 0 ≤ (at0 xs (k + 1)).1 - (at0 xs k).1 ∧ (at0 xs (k + 1)).1 - (at0 xs k).1 ≤ 1) :
    ∀ r, r < xs.length → ∀ i : Int, 0 ≤ i → i ≤ (at0 xs r).1 → ∃ s, s ≤ r ∧ (at0 xs s).1 = i
  | 0, _, i, hi, hi2 => ⟨0, Nat.le_refl _, by rw [h0] at hi2 ⊢; simp only at hi2 ⊢; omega⟩
  | r + 1, hr, i, hi, hi2 => by
    have h1 := hs r hr
    by_cases he : i ≤ (at0 xs r).1
    · obtain ⟨s, h2, h3⟩ := path_meets h0 hs r (by omega) i hi he
      exact ⟨s, by omega, h3⟩
    · exact ⟨r + 1, Nat.le_refl _, by omega⟩
theorem path_covers {xs : List T2} {N M : Int} (g : ∀ x ∈ xs, ok2 x) (hN : I64 N) (hn : xs.length ≤ 1048576) (h : iPath xs N M 72 = true) {i : Int} (hi : 0 ≤ i) (hi2 : i < N) : 1 ≤ blC xs i xs.length := by
  unfold iPath at h
  obtain ⟨h1, h2⟩ := Bool.and_eq_true_iff.1 h
  obtain ⟨h3, h4⟩ := Bool.and_eq_true_iff.1 h1
  have h3 := of_decide_eq_true h3
  unfold pEnds at h4
  obtain ⟨h5, h6⟩ := Bool.and_eq_true_iff.1 h4
  have h5 := eqd_iff.1 h5
  have h6 := eqd_iff.1 h6
  have hc : ∀ k, k < xs.length → iChk xs 72 k = true := fun k hk => range_at h2 hk
  have w1 : wrap64 (N - 1) = N - 1 := by obtain ⟨_, _⟩ := hN; unfold wrap64; omega
  obtain ⟨s, hs1, hs2⟩ := path_meets h5 (fun k hk => (iPath_steps g h5 hn hc k hk).1) (xs.length - 1) (by omega) i hi (by rw [h6, w1]; simp only; omega)
  exact blC_pos (show s < xs.length by omega) hs2
def blQ (a b : List T3) (p : List T2) (i : Nat) : T3 :=
  (nearD (blS gX b p i p.length + blC p i p.length * (a.getD i (0, 0, 0)).1) (2 * blC p i p.length), nearD (blS gY b p i p.length + blC p i p.length * (a.getD i (0, 0, 0)).2.1) (2 * blC p i p.length), (a.getD i (0, 0, 0)).2.2)
def blN (a b : List T3) (p : List T2) (k : Nat) : List T3 := (List.range k).map (blQ a b p)
theorem blN_len (a b : List T3) (p : List T2) (k : Nat) : (blN a b p k).length = k := by simp [blN]
theorem blN_step (a b : List T3) (p : List T2) (k : Nat) : blN a b p (k + 1) = blN a b p k ++ [blQ a b p k] := by simp [blN, List.range_succ]
theorem blQ_of {a b : List T3} {p : List T2} {i np : Nat} {x y d : Int} {sx sy cn : Int} (hp : p.length = np) (ha : a[i]? = some (x, y, d)) (hx : blS gX b p i np = sx) (hy : blS gY b p i np = sy) (hc : blC p i np = cn) :
    blQ a b p i = (nearD (sx + cn * x) (2 * cn), nearD (sy + cn * y) (2 * cn), d) := by unfold blQ; rw [hp, getD_of ha, hx, hy, hc]
def blL (a b : List T3) (p : List T2) : List T3 := if codeP a b p = 0 then blN a b p a.length else []
theorem mul_le_bd {a b : Int} (h0 : 0 ≤ a) (h1 : a ≤ 1048576) (h2 : 0 ≤ b) (h3 : b ≤ 255) : 0 ≤ a * b ∧ a * b ≤ 267386880 :=
  ⟨Int.mul_nonneg h0 h2, by have := Int.mul_le_mul h1 h3 h2 (by omega); omega⟩
theorem codeP_ok {a b : List T3} {p : List T2} (h : codeP a b p = 0) : featsOk 72 a = true ∧ featsOk 72 b = true ∧ iPath p a.length b.length 72 = true := by
  unfold codeP at h
  cases h1 : seqs2 a b with
  | false => rw [h1] at h; simp at h
  | true =>
    rw [h1, if_pos rfl] at h
    cases h2 : iPath p a.length b.length 72 with
    | false => rw [h2] at h; simp at h
    | true => exact ⟨(seqs2_yes h1).1, (seqs2_yes h1).2, rfl⟩
/-- All that the walks ask of a path that fits. -/
theorem blend_facts {a b : List T3} {p : List T2} {n m np : Nat} (hn : a.length = n) (hm : b.length = m) (hp : p.length = np) (h : codeP a b p = 0) (g : ∀ x ∈ p, ok2 x) (hnp : np ≤ 1048576) :
    (n ≤ 72 ∧ m ≤ 72) ∧ (∀ (k : Nat) (x y d : Int), a[k]? = some (x, y, d) → (0 ≤ x ∧ x ≤ 255) ∧ (0 ≤ y ∧ y ≤ 255)) ∧
    (∀ (k : Nat) (x y : Int), p[k]? = some (x, y) → ∃ i j : Nat, x = i ∧ y = j ∧ i < n ∧ j < m) ∧
    (∀ (k : Nat) (x y d : Int), b[k]? = some (x, y, d) → (0 ≤ x ∧ x ≤ 255) ∧ (0 ≤ y ∧ y ≤ 255)) ∧
    (∀ (i r : Nat), r ≤ np → (0 ≤ blS gX b p i r ∧ blS gX b p i r ≤ 255 * r) ∧ (0 ≤ blS gY b p i r ∧ blS gY b p i r ≤ 255 * r)) ∧
    (∀ i : Nat, i < n → 1 ≤ blC p i np) := by
  obtain ⟨h1, h2, h3⟩ := codeP_ok h
  have f1 := Bool.and_eq_true_iff.1 h1
  have f2 := Bool.and_eq_true_iff.1 h2
  have l1 := inB_iff.1 f1.2
  have l2 := inB_iff.1 f2.2
  rw [hn] at l1
  rw [hm] at l2
  have iN : I64 (a.length : Int) := ⟨by omega, by omega⟩
  have iM : I64 (b.length : Int) := ⟨by omega, by omega⟩
  have hin : ∀ (k : Nat) (x y : Int), p[k]? = some (x, y) → ∃ i j : Nat, x = i ∧ y = j ∧ i < n ∧ j < m := fun k x y hx => by
    obtain ⟨⟨q1, q2⟩, ⟨q3, q4⟩⟩ := path_in g iN iM ⟨by decide, by decide⟩ (by omega) (by omega) (by omega) h3 k hx
    exact ⟨x.toNat, y.toNat, by omega, by omega, by omega, by omega⟩
  have hfe : ∀ (l : List T3), l.all featOk = true → ∀ (k : Nat) (x y d : Int), l[k]? = some (x, y, d) → (0 ≤ x ∧ x ≤ 255) ∧ (0 ≤ y ∧ y ≤ 255) := fun l hl k x y d hx => by
    obtain ⟨⟨q1, q2⟩, ⟨q3, q4⟩, _⟩ := featB_iff.1 (show featB x y d = true from all_at (p := featOk) (x := (x, y, d)) hl hx)
    exact ⟨⟨q1, q2⟩, ⟨q3, q4⟩⟩
  have hnth : ∀ (r : Nat) (x y : Int), p[r]? = some (x, y) → (0 ≤ gX (nth3 b y) ∧ gX (nth3 b y) ≤ 255) ∧ (0 ≤ gY (nth3 b y) ∧ gY (nth3 b y) ≤ 255) := fun r x y hx => by
    obtain ⟨i, j, rfl, rfl, hi, hj⟩ := hin r x y hx
    have hq : b[j]? = some (b[j]'(by omega)) := List.getElem?_eq_getElem (by omega)
    unfold nth3
    rw [Int.toNat_natCast, hq]
    generalize b[j]'(by omega) = q at hq
    obtain ⟨u, v, d⟩ := q
    exact hfe b f2.1 j u v d hq
  refine ⟨⟨by omega, by omega⟩, hfe a f1.1, hin, hfe b f2.1, fun i r hr => ⟨blS_bd (fun r x y hx => (hnth r x y hx).1) r (by omega), blS_bd (fun r x y hx => (hnth r x y hx).2) r (by omega)⟩, fun i hi => ?_⟩
  rw [← hp]
  exact path_covers g iN (by omega) h3 (by omega) (by omega)
theorem nth3_at {b : List T3} {j : Nat} {q : T3} (h : b[j]? = some q) : nth3 b (j : Int) = q := by unfold nth3; rw [Int.toNat_natCast, h]; rfl
set_option maxRecDepth 100000 in
set_option maxHeartbeats 8000000 in
theorem l09Blend_any (A A' A2 : Option Addr) (n c m c' np c2' : Nat) (xs ys : List T3) (p : List T2) (w : World) (hr : RdL c3 3 w w.heap.size A n c xs) (hr' : RdL c3 3 w w.heap.size A' m c' ys) (hp : RdL c2 2 w w.heap.size A2 np c2' p)
    (hc : codeP xs ys p = 0) (g : ∀ x ∈ p, ok2 x) (hnp : np ≤ 1048576) :
    Calls Try.prog 98 #[.slice A n c, .slice A' m c', .slice A2 np c2'] w fun e w' => ∃ A9 c9, e = .returned (.slice A9 n c9) ∧ w'.ownsRow w.heap.size 103 3 (.slice A9 n c9) n ((blN xs ys p n).flatMap c3) ∧ Below w.heap.size w w' := by
  obtain ⟨i0, hi, hz0, hz1, hz2⟩ := info_parts (show (Try.prog.info? 103).map (fun i => (i.zero, i.size, i.bytes)) = some (some (.agg #[.int .i64 0, .int .i64 0, .int .i64 0]), 3, 24) by kernel_rfl)
  have hl2 := Lib.hid hp.len
  have hl := Lib.hid hr.len
  obtain ⟨⟨B1, B2⟩, B3, B4, B5, B6, B7⟩ := blend_facts hr.len hr'.len hp.len hc g hnp
  have B3 := Lib.hid B3
  have B4 := Lib.hid B4
  have B5 := Lib.hid B5
  have B6 := Lib.hid B6
  have B7 := Lib.hid B7
  have HR := Lib.hid hr
  have HR' := Lib.hid hr'
  have HP := Lib.hid hp
  clear hr hr' hp hc g
  go_enter Try.func98, Try.ntmps98
  go_wp2
  go_loopw [7, 8] (fun q i wr => ∃ (k c9 : Nat) (A9 : Option Addr), k ≤ n ∧ i = .int .i64 k ∧ q = .slice A9 k c9 ∧ Below w.heap.size w wr ∧ wr.ownsRow w.heap.size 103 3 (.slice A9 k c9) k ((blN xs ys p k).flatMap c3)) (fun _ i _ => n - (intOf i).toNat)
  case atStart => exact ⟨0, 0, _, by omega, rfl, rfl, (by repeat (first | exact Below.refl _ _ | assumption | refine Below.drew ?_ | refine below_drewN ?_ _ | refine Below.alloc ?_ (by first | omega | (simp <;> omega)) _ | refine Below.setCell ?_ (by first | omega | (simp <;> omega)) _)), by simpa [blN] using World.ownsRow_lit (base := w.heap.size) (e := 103) (size := 3) w #[] 0 (Nat.le_refl _) (by simp [maxLen]) rfl⟩
  case round =>
    obtain ⟨k, c9, A9, hk, rfl, rfl, hb, hw⟩ := hrel
    by_cases hlt : k < n
    · obtain ⟨b, off, x, y, d, he, hbl, hx, q0, q1, q2⟩ := (HR.out.on hb).at3 hlt
      have hx9 : b < w.heap.size := by obtain ⟨b', _, _, _, _, he', h9, _⟩ := HR.out.at3 hlt; rw [he] at he'; cases he'; exact h9
      subst he
      have i1 : (k : Int) < (n : Int) := by omega
      have i2 : (0 : Int) ≤ (k : Int) := by omega
      have HW := Lib.hid hw
      have H1 := Lib.hid (HR'.out.on hb)
      have H2 := Lib.hid (HP.out.on hb)
      obtain ⟨⟨x0, x1⟩, ⟨y0, y1⟩⟩ := B3.out k x y d hx.out
      clear hw
      go_wp2
      go_loopw [9, 10, 11, 12] (fun s t u i wi => ∃ r : Nat, r ≤ np ∧ i = .int .i64 r ∧ s = .int .i64 (blS gX ys p k r) ∧ t = .int .i64 (blS gY ys p k r) ∧ u = .int .i64 (blC p k r) ∧ Below wr.heap.size wr wi) (fun _ _ _ i _ => np - (intOf i).toNat)
      case atStart => exact ⟨0, by omega, rfl, rfl, rfl, rfl, Below.refl _ _⟩
      case round =>
        obtain ⟨r, hr9, rfl, rfl, rfl, rfl, hbi⟩ := hrel
        obtain ⟨⟨s0, s1⟩, ⟨t0, t1⟩⟩ := B6.out k r (by omega)
        obtain ⟨u0, u1⟩ := blC_bd (p := p) (i := (k : Int)) r
        by_cases hlr : r < np
        · obtain ⟨bp, op, px, py, hpe, hblp, hpx, p0, p1⟩ := (H2.out.on hbi).at2 hlr
          obtain ⟨I, J, rfl, rfl, hI, hJ⟩ := B4.out r px py hpx.out
          obtain ⟨bb, ob, bx, by', bd, hbe, hblb, hbx, b0, b1, b2⟩ := (H1.out.on hbi).at3 hJ
          subst hpe hbe
          obtain ⟨⟨x0', x1'⟩, ⟨y0', y1'⟩⟩ := B5.out J bx by' bd hbx.out
          have hnt := nth3_at hbx.out
          have j1 : (r : Int) < (np : Int) := by omega
          have j2 : (0 : Int) ≤ (r : Int) := by omega
          have j3 : (J : Int) < (m : Int) := by omega
          have j4 : (0 : Int) ≤ (J : Int) := by omega
          by_cases hik : I = k
          · have E1 : Hid (blS gX ys p k (r + 1) = blS gX ys p k r + bx) := blS_yes hpx.out (by omega) hnt
            have E2 : Hid (blS gY ys p k (r + 1) = blS gY ys p k r + by') := blS_yes hpx.out (by omega) hnt
            have E3 : Hid (blC p k (r + 1) = blC p k r + 1) := blC_yes hpx.out (by omega)
            have z1 : ((I : Int) == (k : Int)) = true := by simp; omega
            obtain ⟨sx, hsx⟩ : ∃ sx, blS gX ys p k r = sx := ⟨_, rfl⟩
            obtain ⟨sy, hsy⟩ : ∃ sy, blS gY ys p k r = sy := ⟨_, rfl⟩
            obtain ⟨cn, hcn⟩ : ∃ cn, blC p k r = cn := ⟨_, rfl⟩
            rw [hsx] at E1 s0 s1
            rw [hsy] at E2 t0 t1
            rw [hcn] at E3 u0 u1
            rw [hsx, hsy, hcn]
            have w1 : IntKind.i64.wrap (sx + bx) = sx + bx := IntWalk.i64_in _ (by omega)
            have w2 : IntKind.i64.wrap (sy + by') = sy + by' := IntWalk.i64_in _ (by omega)
            have w3 : IntKind.i64.wrap (cn + 1) = cn + 1 := IntWalk.i64_in _ (by omega)
            clear hnt hsx hsy hcn s0 s1 t0 t1 u0 u1
            go_wp2
            exact ⟨⟨r + 1, by omega, by go_num, by rw [E1.out], by rw [E2.out], by rw [E3.out], (by repeat (first | exact Below.refl _ _ | assumption | refine Below.drew ?_ | refine below_drewN ?_ _ | refine Below.alloc ?_ (by first | omega | (simp <;> omega)) _ | refine Below.setCell ?_ (by first | omega | (simp <;> omega)) _))⟩, by simp [intOf]; omega⟩
          · have E1 : Hid (blS gX ys p k (r + 1) = blS gX ys p k r) := blS_no hpx.out (by omega)
            have E2 : Hid (blS gY ys p k (r + 1) = blS gY ys p k r) := blS_no hpx.out (by omega)
            have E3 : Hid (blC p k (r + 1) = blC p k r) := blC_no hpx.out (by omega)
            have z1 : ((I : Int) == (k : Int)) = false := by simp; omega
            clear hnt s0 s1 t0 t1 u0 u1
            go_wp2
            exact ⟨⟨r + 1, by omega, by go_num, by rw [E1.out], by rw [E2.out], by rw [E3.out], (by repeat (first | exact Below.refl _ _ | assumption | refine Below.drew ?_ | refine below_drewN ?_ _ | refine Below.alloc ?_ (by first | omega | (simp <;> omega)) _ | refine Below.setCell ?_ (by first | omega | (simp <;> omega)) _))⟩, by simp [intOf]; omega⟩
        · have hrn : r = np := by omega
          subst hrn
          have hC := B7.out k hlt
          have HQ : Hid (blQ xs ys p k = (nearD (blS gX ys p k r + blC p k r * x) (2 * blC p k r), nearD (blS gY ys p k r + blC p k r * y) (2 * blC p k r), d)) := blQ_of hl2.out hx.out rfl rfl rfl
          obtain ⟨sx, hsx⟩ : ∃ sx, blS gX ys p k r = sx := ⟨_, rfl⟩
          obtain ⟨sy, hsy⟩ : ∃ sy, blS gY ys p k r = sy := ⟨_, rfl⟩
          obtain ⟨cn, hcn⟩ : ∃ cn, blC p k r = cn := ⟨_, rfl⟩
          rw [hsx, hsy, hcn] at HQ
          rw [hsx] at s0 s1
          rw [hsy] at t0 t1
          rw [hcn] at u0 u1 hC
          rw [hsx, hsy, hcn]
          obtain ⟨m0, m1⟩ := mul_le_bd u0 (show cn ≤ 1048576 by omega) x0 x1
          obtain ⟨m2, m3⟩ := mul_le_bd u0 (show cn ≤ 1048576 by omega) y0 y1
          have v1 : IntKind.i64.wrap (cn * x) = cn * x := IntWalk.i64_in _ (by omega)
          have v2 : IntKind.i64.wrap (cn * y) = cn * y := IntWalk.i64_in _ (by omega)
          have v3 : IntKind.i64.wrap (sx + cn * x) = sx + cn * x := IntWalk.i64_in _ (by omega)
          have v4 : IntKind.i64.wrap (sy + cn * y) = sy + cn * y := IntWalk.i64_in _ (by omega)
          have v5 : IntKind.i64.wrap (2 * cn) = 2 * cn := IntWalk.i64_in _ (by omega)
          have z1 := fun Z => l03Near_any (sx + cn * x) (2 * cn) Z (by omega) (by omega) (by omega) (by omega)
          have z2 := fun Z => l03Near_any (sy + cn * y) (2 * cn) Z (by omega) (by omega) (by omega) (by omega)
          obtain ⟨qx, hqx⟩ : ∃ qx, nearD (sx + cn * x) (2 * cn) = qx := ⟨_, rfl⟩
          obtain ⟨qy, hqy⟩ : ∃ qy, nearD (sy + cn * y) (2 * cn) = qy := ⟨_, rfl⟩
          simp only [hqx] at z1
          simp only [hqy] at z2
          rw [hqx, hqy] at HQ
          have Z1 := Lib.hid z1
          have Z2 := Lib.hid z2
          have HWi := Lib.hid (own_below HW.out hbi)
          have hbz := Lib.hid (below_on hbi hb)
          replace q0 := cell_on2 hbi q0
          replace q1 := cell_on2 hbi q1
          replace q2 := cell_on2 hbi q2
          have zb9 := hbz.out.size
          have FA : Hid (∀ ad, A9 = some ad → b ≠ ad.block) := fun ad h9 => by
            have h8 := (HWi.out.lt ad.block (by rw [h9]; rfl)).1
            have h7 := hx9
            omega
          clear hsx hsy hcn s0 s1 t0 t1 u0 u1 m0 m1 m2 m3 hqx hqy z1 z2 hbi hb HW H1 H2
          go_wp2_with fail
          go_region_held3 (fun w' => w'.cell? ⟨b, off + k * 3, none⟩ = some (.int .i64 x) ∧ w'.cell? ⟨b, off + k * 3 + 1, none⟩ = some (.int .i64 y) ∧ w'.cell? ⟨b, off + k * 3 + 2, none⟩ = some (.int .i64 d)) (first | exact ⟨q0, q1, q2⟩ | (go_split_ands; exact ⟨hst _ _ _ ‹_› (.inl FA.out), hst _ _ _ ‹_› (.inl FA.out), hst _ _ _ ‹_› (.inl FA.out)⟩) | go_keep) (first | ((refine step_keep _ c3_len one3 (by rfl) (.tmp 57) (.tmp 88) 45 (by rfl) w.heap.size 103 i0 _ Try.underlying45 hi hz0 hz1 hz2 rfl (by decide) (by decide) A9 k c9 _ (by rfl) (HWi.out.drew.alloc _) wr.heap.size 1 (qx, qy, d) (by rfl) (news3 (Cell3.new _ _ _ _ _)) (by omega) (by simp; omega) ?_; intro A3 c3' w3 hw3 hb3 hst)) | (go_at_call 136; (first | with_reducible refine (Z1.out _).mono ?_ | with_reducible refine (Z2.out _).mono ?_); rintro e w7 ⟨rfl, rfl⟩))
          go_split_ands
          have hb9 : Below w.heap.size w w3 := (hbz.out.drew.alloc (by have := hbz.out.size; simpa using this) _).trans hb3
          clear v1 v2 v3 v4 v5
          go_wp2
          refine ⟨⟨k + 1, c3', A3, by omega, by go_num, rfl, hb9, ?_⟩, by simp [intOf]; omega⟩
          rw [blN_step, HQ.out]; exact hw3
    · have hkn : k = n := by omega
      subst hkn
      have HW := Lib.hid hw
      clear hw
      go_wp2
      go_ret
      exact ⟨A9, c9, rfl, HW.out, hb⟩
set_option maxHeartbeats 2000000 in
theorem sBlend_any (A A' A2 : Option Addr) (n c m c' np c2' : Nat) (xs ys : List T3) (p : List T2) (w : World) (hr : RdL c3 3 w w.heap.size A n c xs) (hr' : RdL c3 3 w w.heap.size A' m c' ys) (hp : RdL c2 2 w w.heap.size A2 np c2' p)
    (hn : n ≤ 1048576) (hm : m ≤ 1048576) (hnp : np ≤ 1048576) (g : ∀ x ∈ p, ok2 x) :
    Calls Try.prog 38 #[.slice A n c, .slice A' m c', .slice A2 np c2'] w fun e w' => ∃ A9 n9 c9, e = .returned (.tuple #[.slice A9 n9 c9, .int .i64 (codeP xs ys p)]) ∧ w'.ownsRow w.heap.size 103 3 (.slice A9 n9 c9) n9 ((blL xs ys p).flatMap c3) ∧
      (blL xs ys p).length = n9 ∧ n9 ≤ 1048576 ∧ Below w.heap.size w w' := by
  have hl := Lib.hid hr.len
  go_enter Try.func38, Try.ntmps38
  go_wp2_with fail
  with_reducible refine (l09Fits_any _ _ _ _ _ _ _ _ _ xs ys p _ hr hr' hp hn hm hnp g).mono ?_
  rintro e w1 ⟨rfl, hb1⟩
  replace hr := hr.on hb1
  replace hr' := hr'.on hb1
  replace hp := hp.on hb1
  by_cases hc : codeP xs ys p = 0
  · have F : Hid (blL xs ys p = blN xs ys p xs.length) := if_pos hc
    have HC := Lib.hid hc
    have HA := Lib.hid hr
    have HB := Lib.hid hr'
    have HP := Lib.hid hp
    rw [hc]
    clear hr hr' hp hc
    go_wp2_with fail
    with_reducible refine (l09Blend_any _ _ _ _ _ _ _ _ _ xs ys p _ HA.out HB.out HP.out HC.out g hnp).mono ?_
    rintro e w2 ⟨A9, c9, rfl, o2, hb2⟩
    go_wp2
    go_ret2
    rw [F.out, HC.out, hl.out]
    exact ⟨A9, n, c9, rfl, own_mono o2 hb1.size, blN_len _ _ _ _, hn, below_on hb2 hb1⟩
  · have F : Hid (blL xs ys p = []) := if_neg hc
    have hc2 : (codeP xs ys p == 0) = false := by simp; exact hc
    clear hr hr' hp
    go_wp2
    go_ret2
    rw [F.out]
    exact ⟨none, 0, 0, rfl, World.ownsRow_nil _ _ _ _, rfl, by decide, hb1⟩
/-! ### The sums in rows -/
def sumL (ys : List T3) (p : List T2) (n k : Nat) : List T3 := (List.range n).map fun i : Nat => (blS gX ys p i k, blS gY ys p i k, 0)
def cntL (p : List T2) (n k : Nat) : List Int := (List.range n).map fun i : Nat => blC p i k
theorem sumL_at (ys : List T3) (p : List T2) {n k i : Nat} (h : i < n) : (sumL ys p n k)[i]? = some (blS gX ys p i k, blS gY ys p i k, 0) := by simp [sumL, h]
theorem cntL_at (p : List T2) {n k i : Nat} (h : i < n) : (cntL p n k)[i]? = some (blC p i k) := by simp [cntL, h]
theorem sumL_len (ys : List T3) (p : List T2) (n k : Nat) : (sumL ys p n k).length = n := by simp [sumL]
theorem cntL_len (p : List T2) (n k : Nat) : (cntL p n k).length = n := by simp [cntL]
theorem rep_flat (n : Nat) : (List.replicate n ((0, 0, 0) : T3)).flatMap c3 = List.replicate (n * 3) (.int .i64 0) := by
  induction n with
  | zero => rfl
  | succ n ih => rw [List.replicate_succ, List.flatMap_cons, ih, Nat.succ_mul, Nat.add_comm, ← List.replicate_append_replicate]; rfl
theorem sumL_zero (ys : List T3) (p : List T2) (n : Nat) : (sumL ys p n 0).flatMap c3 = List.replicate (n * 3) (.int .i64 0) := by
  rw [← rep_flat]; congr 1
  apply List.ext_getElem <;> simp [sumL, blS]
theorem cntL_zero (p : List T2) (n : Nat) : (cntL p n 0).flatMap c1 = List.replicate n (.int .i64 0) := by
  rw [flat1]
  apply List.ext_getElem <;> simp [cntL, blC]
theorem sumL_step {ys : List T3} {p : List T2} {n k I J : Nat} {q : T3} (h : p[k]? = some ((I : Int), (J : Int))) (hq : nth3 ys (J : Int) = q) :
    (sumL ys p n k).set I (blS gX ys p I k + gX q, blS gY ys p I k + gY q, 0) = sumL ys p n (k + 1) := by
  apply List.ext_getElem
  · simp [sumL]
  · intro j h1 h2
    have hj : j < n := by simpa [sumL] using h2
    rw [List.getElem_set]
    simp only [sumL, List.getElem_map, List.getElem_range]
    by_cases he : I = j
    · subst he
      rw [if_pos rfl, blS_yes h rfl hq, blS_yes h rfl hq]
    · rw [if_neg he, blS_no h (by omega), blS_no h (by omega)]
theorem cntL_step {p : List T2} {n k I J : Nat} (h : p[k]? = some ((I : Int), (J : Int))) : (cntL p n k).set I (blC p I k + 1) = cntL p n (k + 1) := by
  apply List.ext_getElem
  · simp [cntL]
  · intro j h1 h2
    have hj : j < n := by simpa [cntL] using h2
    rw [List.getElem_set]
    simp only [cntL, List.getElem_map, List.getElem_range]
    by_cases he : I = j
    · subst he
      rw [if_pos rfl, blC_yes h rfl]
    · rw [if_neg he, blC_no h (by omega)]
theorem over_two {l r : List Value} {m : Nat} {a b : Value} (h : l.length = m) (hr : 2 ≤ r.length) : ((l ++ r).set m a).set (m + 1) b = (l ++ [a, b]) ++ r.drop 2 := by
  match r, hr with
  | x :: y :: r, _ =>
    rw [List.set_append_right _ _ (by omega), show m - l.length = 0 by omega, List.set_cons_zero, List.set_append_right _ _ (by omega), show m + 1 - l.length = 1 by omega]
    simp
theorem flat_set2 {L : List T3} {i : Nat} {u v z : Int} {X Y : Int} (h : L[i]? = some (u, v, z)) : (((L.flatMap c3).set (i * 3) (.int .i64 X)).set (i * 3 + 1) (.int .i64 Y)) = (L.set i (X, Y, z)).flatMap c3 := by
  have hi : i < L.length := (List.getElem?_eq_some_iff.1 h).1
  have hL : L = L.take i ++ ((u, v, z) :: L.drop (i + 1)) := by rw [← drop_of h, List.take_append_drop]
  have h1 : L.flatMap c3 = (L.take i).flatMap c3 ++ ((u, v, z) :: L.drop (i + 1)).flatMap c3 := by rw [← List.flatMap_append, ← hL]
  rw [h1, over_two (by rw [flat_len c3_len, List.length_take]; omega) (by simp [c3])]
  rw [List.set_eq_take_append_cons_drop, if_pos hi, List.flatMap_append, List.flatMap_cons, List.flatMap_cons]
  simp [c3]
theorem cell_farB {w : World} {b o g j : Nat} {v u : Value} (h : w.cell? ⟨b, o, none⟩ = some v) (hn : ¬ b = g) : (w.setCell ⟨g, j, none⟩ u).cell? ⟨b, o, none⟩ = some v :=
  (World.cell?_setCell_other _ _ _ _ (by intro hq; have := congrArg Addr.block hq; simp only at this; exact hn (by first | exact this | exact this.symm))).trans h
theorem RdL.farB {α : Type} {f : α → List Value} {s : Nat} {w : World} {B : Nat} {A : Option Addr} {n c : Nat} {xs : List α} (h : RdL f s w B A n c xs) {w' : World} (hb : Below B w w') : RdL f s w' B A n c xs := h.below hb
set_option maxRecDepth 100000 in
set_option maxHeartbeats 16000000 in
theorem iBlend_any (A A' A2 : Option Addr) (n c m c' np c2' : Nat) (xs ys : List T3) (p : List T2) (w : World) (hr : RdL c3 3 w w.heap.size A n c xs) (hr' : RdL c3 3 w w.heap.size A' m c' ys) (hp : RdL c2 2 w w.heap.size A2 np c2' p)
    (hn : n ≤ 1048576) (hm : m ≤ 1048576) (hnp : np ≤ 1048576) (g : ∀ x ∈ p, ok2 x) :
    Calls Try.prog 40 #[.slice A n c, .slice A' m c', .slice A2 np c2'] w fun e w' => ∃ A9 n9 c9, e = .returned (.tuple #[.slice A9 n9 c9, .int .i64 (codeP xs ys p)]) ∧ w'.ownsRow w.heap.size 103 3 (.slice A9 n9 c9) n9 ((blL xs ys p).flatMap c3) ∧
      (blL xs ys p).length = n9 ∧ n9 ≤ 1048576 ∧ Below w.heap.size w w' := by
  obtain ⟨i0, hi, hz0, hz1, hz2⟩ := info_parts (show (Try.prog.info? 103).map (fun i => (i.zero, i.size, i.bytes)) = some (some (.agg #[.int .i64 0, .int .i64 0, .int .i64 0]), 3, 24) by kernel_rfl)
  obtain ⟨i1, gi, gz0, gz1, gz2⟩ := info_parts Try.infoInt64
  have hl := Lib.hid hr.len
  have hl2 := Lib.hid hp.len
  go_enter Try.func40, Try.ntmps40
  go_wp2_with fail
  with_reducible refine (pathable_any _ _ _ _ _ _ _ _ _ xs ys p _ hr hr' hp hn hm hnp).mono ?_
  rintro e w1 ⟨rfl, hb1⟩
  have lb := Lib.hid hr'.len
  replace hr := hr.on hb1
  replace hr' := hr'.on hb1
  replace hp := hp.on hb1
  by_cases hc : codeP xs ys p = 0
  · have F : Hid (blL xs ys p = blN xs ys p xs.length) := if_pos hc
    have HC := Lib.hid hc
    obtain ⟨⟨B1, B2⟩, B3, B4, B5, B6, B7⟩ := blend_facts hl.out lb.out hl2.out hc g hnp
    have B3 := Lib.hid B3
    have B4 := Lib.hid B4
    have B5 := Lib.hid B5
    have B6 := Lib.hid B6
    have B7 := Lib.hid B7
    have HR := Lib.hid hr
    have HR' := Lib.hid hr'
    have HP := Lib.hid hp
    rw [hc]
    clear hr hr' hp hc g
    go_wp2_with (first | (refine wpList_make_full _ rfl _ _ _ rfl w1.heap.size 103 i0 _ 3 Try.underlying45 hi hz0 hz1 .i64 .i64 n n n rfl rfl rfl rfl (by rw [hz2]; omega) (by unfold maxLen; omega) (Nat.le_refl _) ?_; intro w2 hown hg) | (refine wpList_make_full _ rfl _ _ _ rfl w2.heap.size 2 i1 _ 1 Try.underlying52 gi gz0 gz1 .i64 .i64 n n n rfl rfl rfl rfl (by rw [gz2]; omega) (by unfold maxLen; omega) (Nat.le_refl _) ?_; intro w3 hown2 hg2))
    rw [made3, ← sumL_zero ys p n] at hown
    rw [made1, Nat.mul_one, ← cntL_zero p n] at hown2
    have hB2 : Below w1.heap.size w1 w2 := (Below.refl _ _).grown hg (Nat.le_refl _) (fun k h => by cases h)
    have hB3 : Below w2.heap.size w2 w3 := (Below.refl _ _).grown hg2 (Nat.le_refl _) (fun k h => by cases h)
    have hs3 := own_below hown hB3
    have hbb := below_on hB3 hB2
    have hgs : w1.heap.size < w2.heap.size := (hown.lt _ rfl).2
    have hgc : w2.heap.size < w3.heap.size := (hown2.lt _ rfl).2
    clear hg hg2 hown
    obtain ⟨gs, egs⟩ : ∃ gs, w1.heap.size = gs := ⟨_, rfl⟩
    obtain ⟨gc, egc⟩ : ∃ gc, w2.heap.size = gc := ⟨_, rfl⟩
    rw [egs] at hs3 hgs hbb
    rw [egc] at hown2 hgs hgc
    rw [egs, egc]
    clear hB2 hB3
    have hgb : gs < gc := by omega
    have hb1s := hb1.size
    go_loopw [32] (fun i wr => ∃ k : Nat, k ≤ np ∧ i = .int .i64 k ∧ Below gs w1 wr ∧ wr.ownsRow gs 103 3 (.slice (some ⟨gs, 0, none⟩) n n) n ((sumL ys p n k).flatMap c3) ∧ wr.ownsRow gc 2 1 (.slice (some ⟨gc, 0, none⟩) n n) n ((cntL p n k).flatMap c1)) (fun i _ => np - (intOf i).toNat)
    case atStart => exact ⟨0, by omega, rfl, hbb, hs3, hown2⟩
    case round =>
      clear hbb hs3 hown2
      obtain ⟨k, hk, rfl, hb, hs, hct⟩ := hrel
      have zc := (hct.lt _ rfl).2
      have hb' : Below w1.heap.size w1 wr := by rw [egs]; exact hb
      by_cases hlt : k < np
      · obtain ⟨bp, op, px, py, hpe, hblp, hpx, p0, p1⟩ := (HP.out.farB hb').at2 hlt
        obtain ⟨I, J, rfl, rfl, hI, hJ⟩ := B4.out k px py hpx.out
        obtain ⟨bb, ob, bx, by', bd, hbe, hblb, hbx, b0, b1, b2⟩ := (HR'.out.farB hb').at3 hJ
        subst hpe hbe
        obtain ⟨⟨x0', x1'⟩, ⟨y0', y1'⟩⟩ := B5.out J bx by' bd hbx.out
        obtain ⟨⟨s0, s1⟩, ⟨t0, t1⟩⟩ := B6.out I k (by omega)
        obtain ⟨u0, u1⟩ := blC_bd (p := p) (i := (I : Int)) k
        have hnt := nth3_at hbx.out
        have HS := Lib.hid (sumL_step (n := n) hpx.out hnt)
        have HT := Lib.hid (cntL_step (n := n) hpx.out)
        obtain ⟨e9, o9, ax, ay, az, he9, _, ha9, e0, e1, e2⟩ := (RdL.of_own (sumL_len _ _ _ _) hs).at3 hI
        cases he9
        simp only [Nat.zero_add] at e0 e1 e2
        have hax := ha9.out
        rw [sumL_at ys p hI] at hax
        simp only [Option.some.injEq, Prod.mk.injEq] at hax
        obtain ⟨rfl, rfl, rfl⟩ := hax
        obtain ⟨e9, o9, ac, he9, _, hc9, k0⟩ := (RdL.of_own (cntL_len _ _ _) hct).at1 hI
        cases he9
        simp only [Nat.zero_add] at k0
        have hac := hc9.out
        rw [cntL_at p hI] at hac
        simp only [Option.some.injEq] at hac
        subst hac
        have HF2 := Lib.hid (flat_set2 (X := blS gX ys p I k + bx) (Y := blS gY ys p I k + by') ha9.out)
        obtain ⟨sx, hsx⟩ : ∃ sx, blS gX ys p I k = sx := ⟨_, rfl⟩
        obtain ⟨sy, hsy⟩ : ∃ sy, blS gY ys p I k = sy := ⟨_, rfl⟩
        obtain ⟨cn, hcn⟩ : ∃ cn, blC p I k = cn := ⟨_, rfl⟩
        rw [hsx] at s0 s1 e0 HF2 HS
        rw [hsy] at t0 t1 e1 HF2 HS
        rw [hcn] at u0 u1 k0 HT
        have w1' : IntKind.i64.wrap (sx + bx) = sx + bx := IntWalk.i64_in _ (by omega)
        have w2' : IntKind.i64.wrap (sy + by') = sy + by' := IntWalk.i64_in _ (by omega)
        have w3' : IntKind.i64.wrap (cn + 1) = cn + 1 := IntWalk.i64_in _ (by omega)
        have j0 : (0 : Int) ≤ (I : Int) := by omega
        have j1 : (I : Int) < (n : Int) := by omega
        have j2 : (0 : Int) ≤ (J : Int) := by omega
        have j3 : (J : Int) < (m : Int) := by omega
        have j4 : (0 : Int) ≤ (k : Int) := by omega
        have j5 : (k : Int) < (np : Int) := by omega
        have hsz := hb.size
        have HSo := Lib.hid hs
        have HCo := Lib.hid hct
        have Hb := Lib.hid hb
        have hbg : bb < gs := by omega
        replace hblb : bb < wr.heap.size := by omega
        clear hs hct hb hnt ha9 hc9 hsx hsy hcn s0 s1 t0 t1 u0 u1 e2
        go_wp2_with fail
        have P0 := Blk.new (wr) 127 #[.int .i64 I, .int .i64 J]
        have hbwa : Below (wr).heap.size (wr) ((wr).alloc (.cells #[.int .i64 I, .int .i64 J] 127)) := (Below.refl _ _).alloc (Nat.le_refl _) _
        generalize (wr).alloc (.cells #[.int .i64 I, .int .i64 J] 127) = wa at *
        obtain ⟨a0, a1⟩ : wa.cell? ⟨wr.heap.size, 0, none⟩ = some (.int .i64 I) ∧ wa.cell? ⟨wr.heap.size, 1, none⟩ = some (.int .i64 J) := ⟨P0.two.1, P0.two.2.1⟩
        have zq := P0.lt
        replace e0 := cell_on2 hbwa e0
        replace e1 := cell_on2 hbwa e1
        replace k0 := cell_on2 hbwa k0
        replace b0 := cell_on2 hbwa b0
        replace b1 := cell_on2 hbwa b1
        have HS2 := Lib.hid (own_below HSo.out hbwa)
        have HC2 := Lib.hid (own_below HCo.out hbwa)
        have Hb2 := Lib.hid (Hb.out.trans (hbwa.mono (by omega)))
        replace hblb := Nat.lt_of_lt_of_le hblb hbwa.size
        have zc2 := Nat.lt_of_lt_of_le zc hbwa.size
        have n1 : ¬ bb = gs := by omega
        have n2 : ¬ wr.heap.size = gs := by omega
        have n3 : ¬ gc = gs := by omega
        have n4 : ¬ gs = gc := by omega
        generalize wr.heap.size = h0 at *
        clear HSo HCo Hb hbwa P0 p0 p1 b2
        go_wp2_with fail
        refine wp_region_still_tail 15 (by kernel_rfl) (by kernel_rfl) ?_
        simp only [List.take_succ_cons, List.take_zero, List.drop_succ_cons, List.drop_zero]
        repeat still_step
        refine wpStill_nil ?_
        change wpList _ _ _ _ _ wa.drew
        replace a0 : wa.drew.cell? ⟨h0, 0, none⟩ = _ := a0
        replace a1 : wa.drew.cell? ⟨h0, 1, none⟩ = _ := a1
        replace e0 : wa.drew.cell? ⟨gs, I * 3, none⟩ = _ := e0
        replace e1 : wa.drew.cell? ⟨gs, I * 3 + 1, none⟩ = _ := e1
        replace k0 : wa.drew.cell? ⟨gc, I, none⟩ = _ := k0
        replace b1 : wa.drew.cell? ⟨bb, ob + J * 3 + 1, none⟩ = _ := b1
        replace HS2 : Hid (wa.drew.ownsRow _ _ _ _ _ _) := Lib.hid HS2.out.drew
        replace HC2 : Hid (wa.drew.ownsRow _ _ _ _ _ _) := Lib.hid HC2.out.drew
        replace Hb2 : Hid (Below _ _ wa.drew) := Lib.hid Hb2.out.drew
        clear b0 zq hblb
        generalize wa.drew = wz at *
        have f0 := (own_cell HS2.out (j := I * 3) (by omega)).2
        have W9 := Lib.hid (HS2.out.stored (I * 3) (.int .i64 (sx + bx))).1
        have C9 := Lib.hid (ownsRow_setCell_below HC2.out (a := ⟨gs, I * 3, none⟩) (by simp only; omega) (.int .i64 (sx + bx)))
        have B9 := Lib.hid (Hb2.out.setCell (p := ⟨gs, I * 3, none⟩) (Nat.le_refl _) (.int .i64 (sx + bx)))
        have a0' := cell_farB (j := I * 3) (u := .int .i64 (sx + bx)) a0 n2
        have a1' := cell_farB (j := I * 3) (u := .int .i64 (sx + bx)) a1 n2
        have b1' := cell_farB (j := I * 3) (u := .int .i64 (sx + bx)) b1 n1
        have k0' := cell_farB (j := I * 3) (u := .int .i64 (sx + bx)) k0 n3
        have e1' : (wz.setCell ⟨gs, I * 3, none⟩ (.int .i64 (sx + bx))).cell? ⟨gs, I * 3 + 1, none⟩ = some (.int .i64 sy) := (World.cell?_setCell_other _ _ _ _ (by simp)).trans e1
        go_wp2_with fail
        generalize wz.setCell ⟨gs, I * 3, none⟩ (.int .i64 (sx + bx)) = wy at *
        clear e0 f0 e1 k0 a0 a1 b1 HS2 HC2 Hb2
        refine wp_region_still_tail 15 (by kernel_rfl) (by kernel_rfl) ?_
        simp only [List.take_succ_cons, List.take_zero, List.drop_succ_cons, List.drop_zero]
        repeat still_step
        refine wpStill_nil ?_
        change wpList _ _ _ _ _ wy.drew
        replace a0' : wy.drew.cell? ⟨h0, 0, none⟩ = _ := a0'
        replace k0' : wy.drew.cell? ⟨gc, I, none⟩ = _ := k0'
        replace e1' : wy.drew.cell? ⟨gs, I * 3 + 1, none⟩ = _ := e1'
        replace W9 : Hid (wy.drew.ownsRow _ _ _ _ _ _) := Lib.hid W9.out.drew
        replace C9 : Hid (wy.drew.ownsRow _ _ _ _ _ _) := Lib.hid C9.out.drew
        replace B9 : Hid (Below _ _ wy.drew) := Lib.hid B9.out.drew
        clear a1' b1'
        generalize wy.drew = wx at *
        have f1 := (own_cell W9.out (j := I * 3 + 1) (by omega)).2
        have W8 := Lib.hid (W9.out.stored (I * 3 + 1) (.int .i64 (sy + by'))).1
        have C8 := Lib.hid (ownsRow_setCell_below C9.out (a := ⟨gs, I * 3 + 1, none⟩) (by simp only; omega) (.int .i64 (sy + by')))
        have B8 := Lib.hid (B9.out.setCell (p := ⟨gs, I * 3 + 1, none⟩) (Nat.le_refl _) (.int .i64 (sy + by')))
        have a9 := cell_farB (j := I * 3 + 1) (u := .int .i64 (sy + by')) a0' n2
        have k9 := cell_farB (j := I * 3 + 1) (u := .int .i64 (sy + by')) k0' n3
        have f9 := (own_cell C8.out (j := I) (by omega)).2
        have zc3 := (C8.out.lt _ rfl).2
        rw [World.size_setCell] at zc3
        go_wp2_with fail
        refine ⟨⟨k + 1, by omega, by go_num, B8.out.setCell (p := ⟨gc, I, none⟩) (by simp only; omega) _, ?_, ?_⟩, by simp [intOf]; omega⟩
        · have h9 := W8.out
          rw [HF2.out, show (sx + bx, sy + by', (0 : Int)) = (sx + gX (bx, by', bd), sy + gY (bx, by', bd), 0) from rfl, HS.out] at h9
          exact ownsRow_setCell_other h9 (fun h8 => by simp [Value.ownBlock] at h8; omega) _
        · rw [← HT.out]; exact own1_set C8.out _ _
      · have hkn : k = np := by omega
        subst hkn
        have HSo := Lib.hid hs
        have HCo := Lib.hid hct
        have Hb := Lib.hid hb
        have hsz := hb.size
        have hgsz := (hs.lt _ rfl).2
        clear hs hct hb
        go_wp2
        obtain ⟨wo, hwo⟩ : ∃ wo, wr = wo := ⟨_, rfl⟩
        rw [hwo] at HSo HCo Hb hsz hgsz zc
        rw [hwo]
        clear hwo hb'
        have hsz' : w1.heap.size ≤ wo.heap.size := hsz
        go_loopw [13, 76] (fun q i wi => ∃ (j c9 : Nat) (A9 : Option Addr), j ≤ n ∧ i = .int .i64 j ∧ q = .slice A9 j c9 ∧ Below wo.heap.size wo wi ∧ wi.ownsRow wo.heap.size 103 3 (.slice A9 j c9) j ((blN xs ys p j).flatMap c3)) (fun _ i _ => n - (intOf i).toNat)
        case atStart => exact ⟨0, 0, _, by omega, rfl, rfl, Below.refl _ _, World.ownsRow_nil _ _ _ _⟩
        case round =>
          obtain ⟨j, c9, A9, hj, rfl, rfl, hbi, hwi⟩ := hrel
          have hb'' : Below w1.heap.size w1 wo := by rw [egs]; exact Hb.out
          by_cases hlj : j < n
          · obtain ⟨b, off, x, y, d, he, hbl, hx, q0, q1, q2⟩ := ((HR.out.farB hb'').below (hbi.mono hsz')).at3 hlj
            obtain ⟨⟨s0, s1⟩, ⟨t0, t1⟩⟩ := B6.out j k (by omega)
            obtain ⟨u0, u1⟩ := blC_bd (p := p) (i := (j : Int)) k
            obtain ⟨⟨x0, x1⟩, ⟨y0, y1⟩⟩ := B3.out j x y d hx.out
            have hC := B7.out j hlj
            have HQ : Hid (blQ xs ys p j = (nearD (blS gX ys p j k + blC p j k * x) (2 * blC p j k), nearD (blS gY ys p j k + blC p j k * y) (2 * blC p j k), d)) := blQ_of hl2.out hx.out rfl rfl rfl
            obtain ⟨e9, o9, ax, ay, az, he9, _, ha9, e0, e1, e2⟩ := (RdL.of_own (sumL_len _ _ _ _) HSo.out).at3 hlj
            cases he9
            simp only [Nat.zero_add] at e0 e1
            have hax := ha9.out
            rw [sumL_at ys p hlj] at hax
            simp only [Option.some.injEq, Prod.mk.injEq] at hax
            obtain ⟨rfl, rfl, rfl⟩ := hax
            obtain ⟨e9, o9, ac, he9, _, hc9, k0⟩ := (RdL.of_own (cntL_len _ _ _) HCo.out).at1 hlj
            cases he9
            simp only [Nat.zero_add] at k0
            have hac := hc9.out
            rw [cntL_at p hlj] at hac
            simp only [Option.some.injEq] at hac
            subst hac
            obtain ⟨sx, hsx⟩ : ∃ sx, blS gX ys p j k = sx := ⟨_, rfl⟩
            obtain ⟨sy, hsy⟩ : ∃ sy, blS gY ys p j k = sy := ⟨_, rfl⟩
            obtain ⟨cn, hcn⟩ : ∃ cn, blC p j k = cn := ⟨_, rfl⟩
            rw [hsx, hsy, hcn] at HQ
            rw [hsx] at s0 s1 e0
            rw [hsy] at t0 t1 e1
            rw [hcn] at u0 u1 hC k0
            obtain ⟨m0, m1⟩ := mul_le_bd u0 (show cn ≤ 1048576 by omega) x0 x1
            obtain ⟨m2, m3⟩ := mul_le_bd u0 (show cn ≤ 1048576 by omega) y0 y1
            have v1 : IntKind.i64.wrap (cn * x) = cn * x := IntWalk.i64_in _ (by omega)
            have v2 : IntKind.i64.wrap (cn * y) = cn * y := IntWalk.i64_in _ (by omega)
            have v3 : IntKind.i64.wrap (sx + cn * x) = sx + cn * x := IntWalk.i64_in _ (by omega)
            have v4 : IntKind.i64.wrap (sy + cn * y) = sy + cn * y := IntWalk.i64_in _ (by omega)
            have v5 : IntKind.i64.wrap (2 * cn) = 2 * cn := IntWalk.i64_in _ (by omega)
            have z1 := fun Z => nearestDiv_any (sx + cn * x) (2 * cn) Z (by omega) (by omega) (by omega) (by omega)
            have z2 := fun Z => nearestDiv_any (sy + cn * y) (2 * cn) Z (by omega) (by omega) (by omega) (by omega)
            obtain ⟨qx, hqx⟩ : ∃ qx, nearD (sx + cn * x) (2 * cn) = qx := ⟨_, rfl⟩
            obtain ⟨qy, hqy⟩ : ∃ qy, nearD (sy + cn * y) (2 * cn) = qy := ⟨_, rfl⟩
            simp only [hqx] at z1
            simp only [hqy] at z2
            rw [hqx, hqy] at HQ
            have Z1 := Lib.hid z1
            have Z2 := Lib.hid z2
            have i1 : (j : Int) < (n : Int) := by omega
            have i2 : (0 : Int) ≤ (j : Int) := by omega
            have HWI := Lib.hid hwi
            have Hbi := Lib.hid hbi
            have FA : Hid (∀ ad, A9 = some ad → gs ≠ ad.block) := fun ad h9 => by
              have h8 := (hwi.lt ad.block (by rw [h9]; rfl)).1
              omega
            have FB : Hid (∀ ad, A9 = some ad → wr.heap.size ≠ ad.block) := fun ad h9 => by
              have h8 := (hwi.lt ad.block (by rw [h9]; rfl)).2
              omega
            have hsz2 := hbi.size
            replace e0 := cell_on2 hbi e0
            replace e1 := cell_on2 hbi e1
            replace k0 := cell_on2 hbi k0
            have hbl' : b < wr.heap.size := by omega
            have zg0 : gc < wr.heap.size := by omega
            subst he
            clear hbi hwi hsx hsy hcn s0 s1 t0 t1 u0 u1 hC m0 m1 m2 m3 hqx hqy z1 z2 ha9 hc9 e2
            go_wp2_with fail
            have P0 := Blk.new (wr) 103 #[.int .i64 x, .int .i64 y, .int .i64 d]
            have hbwa : Below (wr).heap.size (wr) ((wr).alloc (.cells #[.int .i64 x, .int .i64 y, .int .i64 d] 103)) := (Below.refl _ _).alloc (Nat.le_refl _) _
            generalize (wr).alloc (.cells #[.int .i64 x, .int .i64 y, .int .i64 d] 103) = wa at *
            have a0 := P0.cell 0
            have a1 := P0.cell 1
            have a2 := P0.cell 2
            simp only [List.getElem?_toArray, List.getElem?_cons_succ, List.getElem?_cons_zero] at a0 a1 a2
            have zq := P0.lt
            replace e0 := cell_on2 hbwa e0
            replace e1 := cell_on2 hbwa e1
            replace k0 := cell_on2 hbwa k0
            have HWa := Lib.hid (own_below HWI.out hbwa)
            have Hba := Lib.hid (below_on hbwa Hbi.out)
            have zg1 : gs < wa.heap.size := by have := hbwa.size; omega
            have zg2 : gc < wa.heap.size := by have := hbwa.size; omega
            have zg3 := hbwa.size
            generalize wr.heap.size = h0 at *
            clear HWI Hbi hbwa P0 q0 q1 q2
            go_wp2_with fail
            go_region_held3 (fun w' => w'.cell? ⟨gs, j * 3, none⟩ = some (.int .i64 sx) ∧ w'.cell? ⟨gs, j * 3 + 1, none⟩ = some (.int .i64 sy) ∧ w'.cell? ⟨h0, 0, none⟩ = some (.int .i64 x) ∧ w'.cell? ⟨h0, 1, none⟩ = some (.int .i64 y) ∧ w'.cell? ⟨h0, 2, none⟩ = some (.int .i64 d)) (first | exact ⟨e0, e1, a0, a1, a2⟩ | (go_split_ands; exact ⟨hst _ _ _ ‹_› (.inl FA.out), hst _ _ _ ‹_› (.inl FA.out), hst _ _ _ ‹_› (.inl FB.out), hst _ _ _ ‹_› (.inl FB.out), hst _ _ _ ‹_› (.inl FB.out)⟩) | go_keep) (first | ((refine step_keep _ c3_len one3 (by rfl) (.tmp 85) (.tmp 115) 45 (by rfl) wo.heap.size 103 i0 _ Try.underlying45 hi hz0 hz1 hz2 rfl (by decide) (by decide) A9 j c9 _ (by rfl) (HWa.out.drew.alloc _) wa.heap.size 1 (qx, qy, d) (by rfl) (news3 (Cell3.new _ _ _ _ _)) (by omega) (by simp; omega) ?_; intro A3 c3' w3' hw3 hb3 hst)) | (go_at_call 101; (first | with_reducible refine (Z1.out _).mono ?_ | with_reducible refine (Z2.out _).mono ?_); rintro e w7 ⟨rfl, rfl⟩))
            go_split_ands
            have hb9 : Below wo.heap.size wo w3' := (Hba.out.drew.alloc (by have := Hba.out.size; simpa using this) _).trans hb3
            clear v1 v2 v3 v4 v5
            go_wp2
            refine ⟨⟨j + 1, c3', A3, by omega, by go_num, rfl, hb9, ?_⟩, by simp [intOf]; omega⟩
            rw [blN_step, HQ.out]; exact hw3
          · have hjn : j = n := by omega
            subst hjn
            have HWI := Lib.hid hwi
            clear hwi
            go_wp2
            go_ret2
            rw [F.out, HC.out, hl.out]
            exact ⟨A9, j, c9, rfl, own_mono HWI.out (by omega), blN_len _ _ _ _, by omega, ((hb1.trans (hb''.mono hb1s)).trans (hbi.mono (by omega)))⟩
  · have F : Hid (blL xs ys p = []) := if_neg hc
    have hc2 : (codeP xs ys p == 0) = false := by simp; exact hc
    clear hr hr' hp
    go_wp2
    go_ret2
    rw [F.out]
    exact ⟨none, 0, 0, rfl, World.ownsRow_nil _ _ _ _, rfl, by decide, hb1⟩
end Go.Proofs.Ytlodiniohfhnpaa
