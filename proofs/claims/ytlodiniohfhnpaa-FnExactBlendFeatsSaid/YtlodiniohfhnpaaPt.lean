/- Contracts of ValidPath: the program's and the reference's, each by its own words; and that they say the same. -/
import Derived.Test.YtlodiniohfhnpaaFlPair
namespace Go.Proofs.Ytlodiniohfhnpaa
open Go.ChangeShapes Go.WideShapes Go.ChangeAt Go.RowKit

theorem Try.paNeq (x y x' y' : Int) (w : World) : (binOp .neq 127 (.agg #[.int .i64 x, .int .i64 y]) (.agg #[.int .i64 x', .int .i64 y'])).run Try.prog w = .ok (.bool (!eqd ((x, y) : T2) (x', y'))) w := by
  have h1 : Try.prog.underlying 127 = some (.struct (Try.prog.fieldsOf 127)) := by kernel_rfl
  have h2 : Try.prog.stoodInHeld 127 = false := by kernel_rfl
  rw [run_neq_struct, run_equalIn_agg _ _ _ _ _ h1 h2]
  simp [Program.fieldsOf, go_sem, eqd]
  split
  · split <;> simp_all
  · simp_all
theorem Try.paEql (x y x' y' : Int) (w : World) : (binOp .eql 127 (.agg #[.int .i64 x, .int .i64 y]) (.agg #[.int .i64 x', .int .i64 y'])).run Try.prog w = .ok (.bool (eqd ((x, y) : T2) (x', y'))) w := by
  have h1 : Try.prog.underlying 127 = some (.struct (Try.prog.fieldsOf 127)) := by kernel_rfl
  have h2 : Try.prog.stoodInHeld 127 = false := by kernel_rfl
  rw [run_eql_struct, run_equalIn_agg _ _ _ _ _ h1 h2]
  simp [Program.fieldsOf, go_sem, eqd]
  split
  · split <;> simp_all
  · simp_all
theorem Try.paGuard (op : BinOp) (x y : Operand) (xs ys : Array Value) (w : World) : (eqGuard op 127 x y (.agg xs) (.agg ys)).run Try.prog w = .ok () w :=
  run_eqGuard_agg w op _ x y xs ys (by kernel_rfl)

def at0 (path : List T2) (k : Nat) : T2 := (path[k]?).getD (0, 0)
theorem at0_of {path : List T2} {k : Nat} {x : T2} (h : path[k]? = some x) : at0 path k = x := by unfold at0; rw [h]; rfl
/-- What the program asks of a step, wraps and all. -/
def iStep (q p : T2) : Bool := inB 0 1 (wrap64 (p.1 - q.1)) && (inB 0 1 (wrap64 (p.2 - q.2)) && !(wrap64 (wrap64 (p.1 - q.1) + wrap64 (p.2 - q.2)) == 0))
def iChk (path : List T2) (band : Int) (k : Nat) : Bool := (k == 0 || iStep (at0 path (k - 1)) (at0 path k)) && inB (wrap64 (-band)) band (wrap64 ((at0 path k).1 - (at0 path k).2))
def pEnds (path : List T2) (n m : Int) : Bool := eqd (at0 path 0) (0, 0) && eqd (at0 path (path.length - 1)) (wrap64 (n - 1), wrap64 (m - 1))
def iPath (path : List T2) (n m band : Int) : Bool := (decide (0 < path.length) && pEnds path n m) && (List.range path.length).all (iChk path band)
theorem range_step {p : Nat → Bool} {k : Nat} (h : (List.range k).all p = true) (hk : p k = true) : (List.range (k + 1)).all p = true := by
  rw [List.range_succ, List.all_append, h]; simp [hk]
theorem range_fail {p : Nat → Bool} {k n : Nat} (hk : k < n) (h : p k = false) : (List.range n).all p = false := by
  rw [List.all_eq_false]; exact ⟨k, List.mem_range.2 hk, by simp [h]⟩
theorem range_at {p : Nat → Bool} {k n : Nat} (h : (List.range n).all p = true) (hk : k < n) : p k = true := List.all_eq_true.1 h k (List.mem_range.2 hk)
set_option maxRecDepth 100000 in
set_option maxHeartbeats 2000000 in
theorem iPath_any (A : Option Addr) (n c : Nat) (xs : List T2) (N M band : Int) (w : World) (hr : RdL c2 2 w w.heap.size A n c xs) (hn : n ≤ 1048576) :
    Calls Try.prog 137 #[.slice A n c, .int .i64 N, .int .i64 M, .int .i64 band] w fun e w' => e = .returned (.bool (iPath xs N M band)) ∧ Below w.heap.size w w' := by
  have hl := Lib.hid hr.len
  by_cases hpos : 0 < n
  · obtain ⟨b, off, x, y, rfl, hbl, hx0, q0, q1⟩ := hr.at2 (k := 0) hpos
    obtain ⟨_, _, u, v, e1, _, hxl, p0, p1⟩ := hr.at2 (k := n - 1) (by omega)
    cases e1
    simp only [Nat.zero_mul, Nat.add_zero] at q0 q1
    have i1 : (0 : Int) ≤ (n : Int) - 1 := by omega
    have i1' : 1 ≤ n := by omega
    have i2 : ((n : Int) == 0) = false := by simp; omega
    have HE : Hid (pEnds xs N M = (eqd ((x, y) : T2) (0, 0) && eqd ((u, v) : T2) (wrap64 (N - 1), wrap64 (M - 1)))) := by
      unfold Hid pEnds; rw [hl.out, at0_of hx0.out, at0_of hxl.out]
    have HP : Hid (iPath xs N M band = (pEnds xs N M && (List.range n).all (iChk xs band))) := by
      unfold Hid iPath; rw [hl.out, decide_eq_true hpos, Bool.true_and]
    have qn := Try.paNeq
    have qg := Try.paGuard
    by_cases hz1 : eqd ((x, y) : T2) (0, 0) = true
    · by_cases hz2 : eqd ((u, v) : T2) (wrap64 (N - 1), wrap64 (M - 1)) = true
      · have HZ : Hid (pEnds xs N M = true) := by unfold Hid; rw [HE.out, hz1, hz2]; rfl
        go_enter Try.func137, Try.ntmps137
        go_wp2
        clear hz1 hz2 q0 q1 p0 p1 i1 i1' i2 qn qg HE
        go_loopw [39] (fun i wr => ∃ k : Nat, k ≤ n ∧ i = .int .i64 k ∧ Below w.heap.size w wr ∧ Hid ((List.range k).all (iChk xs band) = true)) (fun i _ => n - (intOf i).toNat)
        case atStart => exact ⟨0, by omega, rfl, Below.refl _ _, rfl⟩
        case round =>
          obtain ⟨k, hk, rfl, hb, hw⟩ := hrel
          by_cases hlt : k < n
          · obtain ⟨_, _, x, y, e1, _, hx, q0, q1⟩ := (hr.below hb).at2 hlt
            cases e1
            have hbw : b < wr.heap.size := by have := hb.size; omega
            have hK : ∀ r : Bool, iChk xs band k = r → r = false → Hid (iPath xs N M band = false) := by
              intro r h1 h2
              unfold Hid; rw [HP.out, range_fail hlt (h1.trans h2), Bool.and_false]
            have HK := Lib.hid hK
            clear hK
            have hsz := hb.size
            by_cases hk0 : 0 < k
            · obtain ⟨j, rfl⟩ : ∃ j, k = j + 1 := ⟨k - 1, by omega⟩
              obtain ⟨_, _, x', y', e1, _, hx', q0', q1'⟩ := (hr.below hb).at2 (k := j) (by omega)
              cases e1
              have HC : Hid (iChk xs band (j + 1) = (iStep (x', y') (x, y) && inB (wrap64 (-band)) band (wrap64 (x - y)))) := by
                unfold Hid iChk; rw [at0_of hx.out, Nat.add_sub_cancel, at0_of hx'.out]; simp
              clear hr
              go_wp2
              go_quiet (fail)
              go_wp2_with (first | (go_at_call 94; with_reducible refine (within_any _ _ _ _).mono ?_; rintro e w' ⟨rfl, rfl⟩))
              · go_ret
                exact ⟨ret_bool (HK.out _ HC.out (by unfold iStep; simp_all)).out.symm, (by repeat (first | exact Below.refl _ _ | assumption | refine Below.drew ?_ | refine below_drewN ?_ _ | refine Below.alloc ?_ (by first | omega | (simp <;> omega)) _ | refine Below.setCell ?_ (by first | omega | (simp <;> omega)) _))⟩
              · go_ret
                exact ⟨ret_bool (HK.out _ HC.out (by rw [not_t ‹(!inB (wrap64 (-band)) band (wrap64 (x - y))) = true›, Bool.and_false])).out.symm, (by repeat (first | exact Below.refl _ _ | assumption | refine Below.drew ?_ | refine below_drewN ?_ _ | refine Below.alloc ?_ (by first | omega | (simp <;> omega)) _ | refine Below.setCell ?_ (by first | omega | (simp <;> omega)) _))⟩
              · have hs : iStep (x', y') (x, y) = true := by unfold iStep; simp_all
                have hz := not_f ‹(!inB (wrap64 (-band)) band (wrap64 (x - y))) = false›
                go_roundw
                case rel => exact ⟨j + 1 + 1, by omega, by go_num, (by repeat (first | exact Below.refl _ _ | assumption | refine Below.drew ?_ | refine below_drewN ?_ _ | refine Below.alloc ?_ (by first | omega | (simp <;> omega)) _ | refine Below.setCell ?_ (by first | omega | (simp <;> omega)) _)), range_step hw.out (by rw [HC.out, hs, hz]; rfl)⟩
                case measure => simp [intOf]; omega
              · go_ret
                exact ⟨ret_bool (HK.out _ HC.out (by unfold iStep; simp_all)).out.symm, (by repeat (first | exact Below.refl _ _ | assumption | refine Below.drew ?_ | refine below_drewN ?_ _ | refine Below.alloc ?_ (by first | omega | (simp <;> omega)) _ | refine Below.setCell ?_ (by first | omega | (simp <;> omega)) _))⟩
              · go_ret
                exact ⟨ret_bool (HK.out _ HC.out (by unfold iStep; simp_all)).out.symm, (by repeat (first | exact Below.refl _ _ | assumption | refine Below.drew ?_ | refine below_drewN ?_ _ | refine Below.alloc ?_ (by first | omega | (simp <;> omega)) _ | refine Below.setCell ?_ (by first | omega | (simp <;> omega)) _))⟩
            · obtain rfl : k = 0 := by omega
              have HC : Hid (iChk xs band 0 = inB (wrap64 (-band)) band (wrap64 (x - y))) := by
                unfold Hid iChk; rw [at0_of hx.out]; simp
              clear hr
              simp only [Nat.zero_mul, Nat.add_zero] at q0 q1
              go_wp2_with (first | (go_at_call 94; with_reducible refine (within_any _ _ _ _).mono ?_; rintro e w' ⟨rfl, rfl⟩))
              · go_ret
                exact ⟨ret_bool (HK.out _ HC.out (not_t ‹(!inB (wrap64 (-band)) band (wrap64 (x - y))) = true›)).out.symm, (by repeat (first | exact Below.refl _ _ | assumption | refine Below.drew ?_ | refine below_drewN ?_ _ | refine Below.alloc ?_ (by first | omega | (simp <;> omega)) _ | refine Below.setCell ?_ (by first | omega | (simp <;> omega)) _))⟩
              · have hz := not_f ‹(!inB (wrap64 (-band)) band (wrap64 (x - y))) = false›
                go_roundw
                case rel => exact ⟨1, by omega, by go_num, (by repeat (first | exact Below.refl _ _ | assumption | refine Below.drew ?_ | refine below_drewN ?_ _ | refine Below.alloc ?_ (by first | omega | (simp <;> omega)) _ | refine Below.setCell ?_ (by first | omega | (simp <;> omega)) _)), range_step hw.out (by rw [HC.out, hz])⟩
                case measure => simp [intOf]; omega
          · clear hr
            go_wp2
            go_ret
            have hkn : k = n := by omega
            subst hkn
            exact ⟨ret_bool (by rw [HP.out, HZ.out, hw.out]; rfl), hb⟩
      · have Hz2 : Hid (eqd ((u, v) : T2) (wrap64 (N - 1), wrap64 (M - 1)) = false) := by simpa [Hid] using hz2
        have hz2' := Hz2.out
        clear hr
        go_enter Try.func137, Try.ntmps137
        go_wp2
        go_ret
        exact ⟨ret_bool (by rw [HP.out, HE.out, Hz2.out, Bool.and_false, Bool.false_and]), Below.refl _ _⟩
    · have Hz1 : Hid (eqd ((x, y) : T2) (0, 0) = false) := by simpa [Hid] using hz1
      have hz1' := Hz1.out
      clear hr
      go_enter Try.func137, Try.ntmps137
      go_wp2
      go_ret
      exact ⟨ret_bool (by rw [HP.out, HE.out, Hz1.out, Bool.false_and, Bool.false_and]), Below.refl _ _⟩
  · have h0 : n = 0 := by omega
    subst h0
    clear hr
    go_enter Try.func137, Try.ntmps137
    go_wp2
    go_ret
    exact ⟨ret_bool (by unfold iPath; rw [hl.out]; rfl), Below.refl _ _⟩
/-- What the reference asks of the pair k. -/
def sIn (N M band : Int) (p : T2) : Bool := (inB 0 (wrap64 (N - 1)) p.1 && inB 0 (wrap64 (M - 1)) p.2) && !(decide (band < ((p.1 - p.2).natAbs : Int)))
def sStep (q p : T2) : Bool := (inB 0 1 (p.1 - q.1) && inB 0 1 (p.2 - q.2)) && !eqd p q
def sChk (path : List T2) (N M band : Int) (k : Nat) : Bool := sIn N M band (at0 path k) && (k == 0 || sStep (at0 path (k - 1)) (at0 path k))
def sPath (path : List T2) (n m band : Int) : Bool := (decide (0 < path.length) && pEnds path n m) && (List.range path.length).all (sChk path n m band)
theorem ok2_at {xs : List T2} {k : Nat} {x y : Int} (g : ∀ x ∈ xs, ok2 x) (h : xs[k]? = some (x, y)) : I64 x ∧ I64 y := g _ (List.mem_of_getElem? h)
set_option maxRecDepth 100000 in
set_option maxHeartbeats 2000000 in
theorem sPath_any (A : Option Addr) (n c : Nat) (xs : List T2) (N M band : Int) (w : World) (hr : RdL c2 2 w w.heap.size A n c xs) (hn : n ≤ 1048576) (g : ∀ x ∈ xs, ok2 x) :
    Calls Try.prog 135 #[.slice A n c, .int .i64 N, .int .i64 M, .int .i64 band] w fun e w' => e = .returned (.bool (sPath xs N M band)) ∧ Below w.heap.size w w' := by
  have hl := Lib.hid hr.len
  have G := Lib.hid g
  clear g
  by_cases hpos : 0 < n
  · obtain ⟨b, off, x, y, rfl, hbl, hx0, q0, q1⟩ := hr.at2 (k := 0) hpos
    obtain ⟨_, _, u, v, e1, _, hxl, p0, p1⟩ := hr.at2 (k := n - 1) (by omega)
    cases e1
    simp only [Nat.zero_mul, Nat.add_zero] at q0 q1
    have i1 : (0 : Int) ≤ (n : Int) - 1 := by omega
    have i1' : 1 ≤ n := by omega
    have i2 : ((n : Int) == 0) = false := by simp; omega
    have HE : Hid (pEnds xs N M = (eqd ((x, y) : T2) (0, 0) && eqd ((u, v) : T2) (wrap64 (N - 1), wrap64 (M - 1)))) := by
      unfold Hid pEnds; rw [hl.out, at0_of hx0.out, at0_of hxl.out]
    have HP : Hid (sPath xs N M band = (pEnds xs N M && (List.range n).all (sChk xs N M band))) := by
      unfold Hid sPath; rw [hl.out, decide_eq_true hpos, Bool.true_and]
    have qn := Try.paNeq
    have qg := Try.paGuard
    by_cases hz1 : eqd ((x, y) : T2) (0, 0) = true
    · by_cases hz2 : eqd ((u, v) : T2) (wrap64 (N - 1), wrap64 (M - 1)) = true
      · have HZ : Hid (pEnds xs N M = true) := by unfold Hid; rw [HE.out, hz1, hz2]; rfl
        go_enter Try.func135, Try.ntmps135
        go_wp2
        clear hz1 hz2 q0 q1 p0 p1 i1 i1' i2 qn qg HE
        go_loopw [10] (fun i wr => ∃ k : Nat, k ≤ n ∧ i = .int .i64 k ∧ Below w.heap.size w wr ∧ Hid ((List.range k).all (sChk xs N M band) = true)) (fun i _ => n - (intOf i).toNat)
        case atStart => exact ⟨0, by omega, rfl, Below.refl _ _, rfl⟩
        case round =>
          obtain ⟨k, hk, rfl, hb, hw⟩ := hrel
          by_cases hlt : k < n
          · obtain ⟨_, _, x, y, e1, _, hx, q0, q1⟩ := (hr.below hb).at2 hlt
            cases e1
            have hbw : b < wr.heap.size := by have := hb.size; omega
            have hsz := hb.size
            obtain ⟨⟨hgx0, hgx1⟩, ⟨hgy0, hgy1⟩⟩ := ok2_at G.out hx.out
            have hK : ∀ r : Bool, sChk xs N M band k = r → r = false → Hid (sPath xs N M band = false) := by
              intro r h1 h2
              unfold Hid; rw [HP.out, range_fail hlt (h1.trans h2), Bool.and_false]
            have HK := Lib.hid hK
            clear hK
            have HC : Hid (sChk xs N M band k = (sIn N M band (x, y) && (k == 0 || sStep (at0 xs (k - 1)) (x, y)))) := by
              unfold Hid sChk; rw [at0_of hx.out]
            by_cases hI : inB 0 (wrap64 (N - 1)) x = true
            · by_cases hJ : inB 0 (wrap64 (M - 1)) y = true
              · have hx00 := (inB_iff.1 hI).1
                have hy00 := (inB_iff.1 hJ).1
                by_cases hB : band < ((x - y).natAbs : Int)
                · have hs : Hid (sIn N M band (x, y) = false) := by unfold Hid sIn; rw [hI, hJ, decide_eq_true hB]; rfl
                  clear hr
                  go_wp2_with (first | (go_at_call 91; with_reducible refine (l00In_any _ _ _ _).mono ?_; rintro e w' ⟨rfl, rfl⟩) | (go_at_call 128; with_reducible refine (l09Size_any _ _ (by omega) (by omega)).mono ?_; rintro e w' ⟨rfl, rfl⟩))
                  go_ret
                  exact ⟨ret_bool (HK.out _ HC.out (by rw [hs.out]; rfl)).out.symm, (by repeat (first | exact Below.refl _ _ | assumption | refine Below.drew ?_ | refine below_drewN ?_ _ | refine Below.alloc ?_ (by first | omega | (simp <;> omega)) _ | refine Below.setCell ?_ (by first | omega | (simp <;> omega)) _))⟩
                · have hs : Hid (sIn N M band (x, y) = true) := by unfold Hid sIn; rw [hI, hJ, decide_eq_false hB]; rfl
                  by_cases hk0 : 0 < k
                  · obtain ⟨j, rfl⟩ : ∃ j, k = j + 1 := ⟨k - 1, by omega⟩
                    obtain ⟨_, _, x', y', e1, _, hx', q0', q1'⟩ := (hr.below hb).at2 (k := j) (by omega)
                    cases e1
                    obtain ⟨⟨hgx0', hgx1'⟩, ⟨hgy0', hgy1'⟩⟩ := ok2_at G.out hx'.out
                    have hj := range_at hw.out (show j < j + 1 by omega)
                    unfold sChk sIn at hj
                    rw [at0_of hx'.out] at hj
                    have hj1 := (inB_iff.1 (Bool.and_eq_true_iff.1 (Bool.and_eq_true_iff.1 (Bool.and_eq_true_iff.1 hj).1).1).1).1
                    have hj2 := (inB_iff.1 (Bool.and_eq_true_iff.1 (Bool.and_eq_true_iff.1 (Bool.and_eq_true_iff.1 hj).1).1).2).1
                    simp only at hj1 hj2
                    clear hj
                    have HC2 : Hid (sChk xs N M band (j + 1) = sStep (x', y') (x, y)) := by
                      unfold Hid; rw [HC.out, hs.out, Nat.add_sub_cancel, at0_of hx'.out]; simp
                    have qe := Try.paEql
                    have qg := Try.paGuard
                    clear hr
                    go_wp2_with (first | (go_at_call 91; with_reducible refine (l00In_any _ _ _ _).mono ?_; rintro e w' ⟨rfl, rfl⟩) | (go_at_call 128; with_reducible refine (l09Size_any _ _ (by omega) (by omega)).mono ?_; rintro e w' ⟨rfl, rfl⟩))
                    · have h1 := ‹eqd ((x, y) : T2) (x', y') = true›
                      go_ret
                      exact ⟨ret_bool (HK.out _ HC2.out (by unfold sStep; rw [h1]; simp)).out.symm, (by repeat (first | exact Below.refl _ _ | assumption | refine Below.drew ?_ | refine below_drewN ?_ _ | refine Below.alloc ?_ (by first | omega | (simp <;> omega)) _ | refine Below.setCell ?_ (by first | omega | (simp <;> omega)) _))⟩
                    · have h1 := ‹eqd ((x, y) : T2) (x', y') = false›
                      have h2 := ‹inB 0 1 (x - x') = true›
                      have h3 := ‹inB 0 1 (y - y') = true›
                      exact ⟨⟨j + 1 + 1, by omega, by go_num, (by repeat (first | exact Below.refl _ _ | assumption | refine Below.drew ?_ | refine below_drewN ?_ _ | refine Below.alloc ?_ (by first | omega | (simp <;> omega)) _ | refine Below.setCell ?_ (by first | omega | (simp <;> omega)) _)), range_step hw.out (by rw [HC2.out]; unfold sStep; rw [h1, h2, h3]; rfl)⟩, by simp [intOf]; omega⟩
                    · have h1 := ‹¬ inB 0 1 (y - y') = true›
                      go_ret
                      exact ⟨ret_bool (HK.out _ HC2.out (by unfold sStep; simp only; rw [Bool.eq_false_iff.2 h1, Bool.and_false, Bool.false_and])).out.symm, (by repeat (first | exact Below.refl _ _ | assumption | refine Below.drew ?_ | refine below_drewN ?_ _ | refine Below.alloc ?_ (by first | omega | (simp <;> omega)) _ | refine Below.setCell ?_ (by first | omega | (simp <;> omega)) _))⟩
                    · have h1 := ‹¬ inB 0 1 (x - x') = true›
                      go_ret
                      exact ⟨ret_bool (HK.out _ HC2.out (by unfold sStep; simp only; rw [Bool.eq_false_iff.2 h1, Bool.false_and, Bool.false_and])).out.symm, (by repeat (first | exact Below.refl _ _ | assumption | refine Below.drew ?_ | refine below_drewN ?_ _ | refine Below.alloc ?_ (by first | omega | (simp <;> omega)) _ | refine Below.setCell ?_ (by first | omega | (simp <;> omega)) _))⟩
                  · obtain rfl : k = 0 := by omega
                    clear hr
                    simp only [Nat.zero_mul, Nat.add_zero] at q0 q1
                    go_wp2_with (first | (go_at_call 91; with_reducible refine (l00In_any _ _ _ _).mono ?_; rintro e w' ⟨rfl, rfl⟩) | (go_at_call 128; with_reducible refine (l09Size_any _ _ (by omega) (by omega)).mono ?_; rintro e w' ⟨rfl, rfl⟩))
                    exact ⟨⟨1, by omega, by go_num, (by repeat (first | exact Below.refl _ _ | assumption | refine Below.drew ?_ | refine below_drewN ?_ _ | refine Below.alloc ?_ (by first | omega | (simp <;> omega)) _ | refine Below.setCell ?_ (by first | omega | (simp <;> omega)) _)), range_step hw.out (by rw [HC.out, hs.out]; rfl)⟩, by simp [intOf]; omega⟩
              · have HJ : Hid (inB 0 (wrap64 (M - 1)) y = false) := by simpa [Hid] using hJ
                have hJ' := HJ.out
                have hs : Hid (sIn N M band (x, y) = false) := by unfold Hid sIn; rw [HJ.out, Bool.and_false, Bool.false_and]
                clear hr
                go_wp2_with (first | (go_at_call 91; with_reducible refine (l00In_any _ _ _ _).mono ?_; rintro e w' ⟨rfl, rfl⟩))
                go_ret
                exact ⟨ret_bool (HK.out _ HC.out (by rw [hs.out]; rfl)).out.symm, (by repeat (first | exact Below.refl _ _ | assumption | refine Below.drew ?_ | refine below_drewN ?_ _ | refine Below.alloc ?_ (by first | omega | (simp <;> omega)) _ | refine Below.setCell ?_ (by first | omega | (simp <;> omega)) _))⟩
            · have HI : Hid (inB 0 (wrap64 (N - 1)) x = false) := by simpa [Hid] using hI
              have hI' := HI.out
              have hs : Hid (sIn N M band (x, y) = false) := by unfold Hid sIn; rw [HI.out, Bool.false_and, Bool.false_and]
              clear hr
              go_wp2_with (first | (go_at_call 91; with_reducible refine (l00In_any _ _ _ _).mono ?_; rintro e w' ⟨rfl, rfl⟩))
              go_ret
              exact ⟨ret_bool (HK.out _ HC.out (by rw [hs.out]; rfl)).out.symm, (by repeat (first | exact Below.refl _ _ | assumption | refine Below.drew ?_ | refine below_drewN ?_ _ | refine Below.alloc ?_ (by first | omega | (simp <;> omega)) _ | refine Below.setCell ?_ (by first | omega | (simp <;> omega)) _))⟩
          · clear hr
            go_wp2
            go_ret
            have hkn : k = n := by omega
            subst hkn
            exact ⟨ret_bool (by rw [HP.out, HZ.out, hw.out]; rfl), hb⟩
      · have Hz2 : Hid (eqd ((u, v) : T2) (wrap64 (N - 1), wrap64 (M - 1)) = false) := by simpa [Hid] using hz2
        have hz2' := Hz2.out
        clear hr
        go_enter Try.func135, Try.ntmps135
        go_wp2
        go_ret
        exact ⟨ret_bool (by rw [HP.out, HE.out, Hz2.out, Bool.and_false, Bool.false_and]), Below.refl _ _⟩
    · have Hz1 : Hid (eqd ((x, y) : T2) (0, 0) = false) := by simpa [Hid] using hz1
      have hz1' := Hz1.out
      clear hr
      go_enter Try.func135, Try.ntmps135
      go_wp2
      go_ret
      exact ⟨ret_bool (by rw [HP.out, HE.out, Hz1.out, Bool.false_and, Bool.false_and]), Below.refl _ _⟩
  · have h0 : n = 0 := by omega
    subst h0
    clear hr
    go_enter Try.func135, Try.ntmps135
    go_wp2
    go_ret
    exact ⟨ret_bool (by unfold sPath; rw [hl.out]; rfl), Below.refl _ _⟩
/-! ### Both say the same -/
theorem at0_ok {xs : List T2} (g : ∀ x ∈ xs, ok2 x) (k : Nat) : I64 (at0 xs k).1 ∧ I64 (at0 xs k).2 := by
  unfold at0
  cases h : xs[k]? with
  | none => unfold I64; simp
  | some x => exact g x (List.mem_of_getElem? h)
theorem iStep_iff {q p : T2} (hq : 0 ≤ q.1 ∧ q.1 ≤ 1048576 ∧ 0 ≤ q.2 ∧ q.2 ≤ 1048576) (hp : I64 p.1 ∧ I64 p.2) :
    iStep q p = true ↔ (0 ≤ p.1 - q.1 ∧ p.1 - q.1 ≤ 1) ∧ (0 ≤ p.2 - q.2 ∧ p.2 - q.2 ≤ 1) ∧ ¬ ((p.1 - q.1) + (p.2 - q.2) = 0) := by
  obtain ⟨h1, h2, h3, h4⟩ := hq
  obtain ⟨⟨h5, h6⟩, ⟨h7, h8⟩⟩ := hp
  unfold iStep
  simp only [Bool.and_eq_true, inB_iff, Bool.not_eq_true', beq_eq_false_iff_ne, ne_eq]
  unfold wrap64
  omega
theorem iPath_mono {xs : List T2} {band : Int} (g : ∀ x ∈ xs, ok2 x) (h0 : at0 xs 0 = (0, 0)) (hn : xs.length ≤ 1048576) (h : ∀ k, k < xs.length → iChk xs band k = true) :
    ∀ k, k < xs.length → (0 ≤ (at0 xs k).1 ∧ (at0 xs k).1 ≤ k) ∧ (0 ≤ (at0 xs k).2 ∧ (at0 xs k).2 ≤ k)
  | 0, _ => by rw [h0]; simp
  | k + 1, hk => by
    have ih := iPath_mono g h0 hn h k (by omega)
    have hc := h (k + 1) hk
    unfold iChk at hc
    have h1 := (Bool.and_eq_true_iff.1 hc).1
    simp only [Nat.add_sub_cancel, Nat.add_eq_zero_iff, Nat.one_ne_zero, and_false, beq_iff_eq, Bool.or_eq_true, false_or] at h1
    have h2 := (iStep_iff ⟨by omega, by omega, by omega, by omega⟩ (at0_ok g (k + 1))).1 h1
    omega
theorem iPath_steps {xs : List T2} {band : Int} (g : ∀ x ∈ xs, ok2 x) (h0 : at0 xs 0 = (0, 0)) (hn : xs.length ≤ 1048576) (h : ∀ k, k < xs.length → iChk xs band k = true) (k : Nat) (hk : k + 1 < xs.length) :
    (0 ≤ (at0 xs (k + 1)).1 - (at0 xs k).1 ∧ (at0 xs (k + 1)).1 - (at0 xs k).1 ≤ 1) ∧ (0 ≤ (at0 xs (k + 1)).2 - (at0 xs k).2 ∧ (at0 xs (k + 1)).2 - (at0 xs k).2 ≤ 1) ∧
      ¬ (((at0 xs (k + 1)).1 - (at0 xs k).1) + ((at0 xs (k + 1)).2 - (at0 xs k).2) = 0) := by
  have ih := iPath_mono g h0 hn h k (by omega)
  have hc := h (k + 1) hk
  unfold iChk at hc
  have h1 := (Bool.and_eq_true_iff.1 hc).1
  simp only [Nat.add_sub_cancel, Nat.add_eq_zero_iff, Nat.one_ne_zero, and_false, beq_iff_eq, Bool.or_eq_true, false_or] at h1
  exact (iStep_iff ⟨by omega, by omega, by omega, by omega⟩ (at0_ok g (k + 1))).1 h1
theorem iPath_last {xs : List T2} {band : Int} (g : ∀ x ∈ xs, ok2 x) (h0 : at0 xs 0 = (0, 0)) (hn : xs.length ≤ 1048576) (h : ∀ k, k < xs.length → iChk xs band k = true) :
    ∀ d k, k + d + 1 = xs.length → (at0 xs k).1 ≤ (at0 xs (xs.length - 1)).1 ∧ (at0 xs k).2 ≤ (at0 xs (xs.length - 1)).2
  | 0, k, hk => by rw [show xs.length - 1 = k by omega]; exact ⟨Int.le_refl _, Int.le_refl _⟩
  | d + 1, k, hk => by
    have ih := iPath_last g h0 hn h d (k + 1) (by omega)
    have hs := iPath_steps g h0 hn h k (by omega)
    omega
theorem path_same {xs : List T2} {N M band : Int} (g : ∀ x ∈ xs, ok2 x) (hN : I64 N) (hM : I64 M) (hB : I64 band) (hn : xs.length ≤ 1048576) :
    ((decide (1 ≤ N) && decide (1 ≤ M)) && sPath xs N M band) = iPath xs N M band := by
  obtain ⟨hN1, hN2⟩ := hN
  obtain ⟨hM1, hM2⟩ := hM
  obtain ⟨hB1, hB2⟩ := hB
  rw [Bool.eq_iff_iff]
  unfold sPath iPath pEnds
  simp only [Bool.and_eq_true, decide_eq_true_eq, eqd_iff, List.all_eq_true, List.mem_range]
  constructor
  · rintro ⟨⟨h1, h2⟩, ⟨hl, he0, he1⟩, hc⟩
    refine ⟨⟨hl, he0, he1⟩, fun k hk => ?_⟩
    have hin : ∀ j, j < xs.length → (0 ≤ (at0 xs j).1 ∧ 0 ≤ (at0 xs j).2 ∧ ((at0 xs j).1 - (at0 xs j).2).natAbs ≤ band) := by
      intro j hj
      have := hc j hj
      unfold sChk sIn at this
      simp only [Bool.and_eq_true, inB_iff, Bool.not_eq_true', decide_eq_false_iff_not] at this
      omega
    have hk' := hc k hk
    have hi := hin k hk
    obtain ⟨⟨o1, o2⟩, o3, o4⟩ := at0_ok g k
    unfold iChk
    simp only [Bool.and_eq_true, Bool.or_eq_true, beq_iff_eq, inB_iff]
    refine ⟨?_, ?_⟩
    · by_cases hk0 : k = 0
      · exact .inl hk0
      · right
        have hp := hin (k - 1) (by omega)
        obtain ⟨⟨p1, p2⟩, p3, p4⟩ := at0_ok g (k - 1)
        unfold sChk sStep at hk'
        simp only [Bool.and_eq_true, Bool.or_eq_true, beq_iff_eq, hk0, false_or, inB_iff, Bool.not_eq_true', eqd_no] at hk'
        have hne := hk'.2.2
        have hne' : ¬ ((at0 xs k).1 = (at0 xs (k - 1)).1 ∧ (at0 xs k).2 = (at0 xs (k - 1)).2) := fun ⟨e1, e2⟩ => hne (Prod.ext e1 e2)
        unfold iStep
        simp only [Bool.and_eq_true, inB_iff, Bool.not_eq_true', beq_eq_false_iff_ne, ne_eq]
        unfold wrap64
        omega
    · unfold wrap64
      omega
  · rintro ⟨⟨hl, he0, he1⟩, hc⟩
    have hm := iPath_mono g he0 hn hc
    have hlast := hm (xs.length - 1) (by omega)
    rw [he1] at hlast
    simp only at hlast
    have hw1 : wrap64 (N - 1) = N - 1 := by
      have := hlast.1; revert this; unfold wrap64; omega
    have hw2 : wrap64 (M - 1) = M - 1 := by
      have := hlast.2; revert this; unfold wrap64; omega
    have hb0 : 0 ≤ band := by
      have h0 := hc 0 hl
      unfold iChk at h0
      rw [he0] at h0
      simp only [Bool.and_eq_true, inB_iff] at h0
      have := h0.2.2
      revert this; unfold wrap64; omega
    refine ⟨⟨by omega, by omega⟩, ⟨hl, he0, he1⟩, fun k hk => ?_⟩
    have h1 := hm k hk
    have h2 := iPath_last g he0 hn hc (xs.length - 1 - k) k (by omega)
    rw [he1] at h2
    simp only [hw1, hw2] at h2
    have h3 := hc k hk
    unfold iChk at h3
    have h4 := inB_iff.1 (Bool.and_eq_true_iff.1 h3).2
    have h5 : ((at0 xs k).1 - (at0 xs k).2).natAbs ≤ band := by
      revert h4; unfold wrap64; omega
    unfold sChk sIn
    simp only [Bool.and_eq_true, Bool.or_eq_true, beq_iff_eq, inB_iff, Bool.not_eq_true', decide_eq_false_iff_not, hw1, hw2]
    refine ⟨⟨⟨by omega, by omega⟩, by omega⟩, ?_⟩
    by_cases hk0 : k = 0
    · exact .inl hk0
    · right
      obtain ⟨j, rfl⟩ : ∃ j, k = j + 1 := ⟨k - 1, by omega⟩
      have hs := iPath_steps g he0 hn hc j hk
      unfold sStep
      simp only [Nat.add_sub_cancel, Bool.and_eq_true, inB_iff, Bool.not_eq_true', eqd_no]
      refine ⟨⟨hs.1, hs.2.1⟩, fun e => ?_⟩
      rw [e] at hs
      omega
theorem l09Path_in (A : Option Addr) (n c : Nat) (xs : List T2) (N M band : Int) (w : World) (hr : RdL c2 2 w w.heap.size A n c xs) (hn : n ≤ 1048576) (g : ∀ x ∈ xs, ok2 x) (hN : I64 N) (hM : I64 M) (hB : I64 band) (h1 : 1 ≤ N) (h2 : 1 ≤ M) :
    Calls Try.prog 135 #[.slice A n c, .int .i64 N, .int .i64 M, .int .i64 band] w fun e w' => e = .returned (.bool (iPath xs N M band)) ∧ Below w.heap.size w w' := by
  have := path_same (band := band) g hN hM hB (by rw [hr.len]; exact hn)
  rw [decide_eq_true h1, decide_eq_true h2, Bool.true_and, Bool.true_and] at this
  rw [← this]
  exact sPath_any A n c xs N M band w hr hn g
end Go.Proofs.Ytlodiniohfhnpaa
