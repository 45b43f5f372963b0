/- Ink: valid. -/
import Derived.Test.YtbfilhpgekgmbaaNk
import Derived.Test.YtbfilhpgekgmbaaSa
namespace Go.Proofs.Ytbfilhpgekgmbaa
open Go.ChangeShapes Go.WideShapes Go.ChangeAt Go.RowKit
def headT (x : List T3) : Int := (x.getD 0 (0, 0, 0)).2.2
def lastT (x : List T3) : Int := (x.getD (x.length - 1) (0, 0, 0)).2.2
def inkAt (xs : List (List T3)) (k : Nat) : Bool := strokeB (xs.getD k []) && (decide (k = 0) || decide (lastT (xs.getD (k - 1) []) < headT (xs.getD k [])))
def inkB (xs : List (List T3)) : Bool := (List.range xs.length).all (inkAt xs) && decide (xs.length ≤ 16)
theorem inkAt_bad {xs : List (List T3)} {k : Nat} {x : List T3} (hx : xs[k]? = some x) (h : strokeB x = false) : inkAt xs k = false := by unfold inkAt; rw [getD_of hx, h]; rfl
theorem inkAt_zero {xs : List (List T3)} {k : Nat} {x : List T3} (hx : xs[k]? = some x) (h : strokeB x = true) (hk : k = 0) : inkAt xs k = true := by unfold inkAt; rw [getD_of hx, h, decide_eq_true hk]; rfl
theorem inkAt_late {xs : List (List T3)} {k : Nat} {x y : List T3} (hx : xs[k]? = some x) (hy : xs[k - 1]? = some y) (hk : 0 < k) (h : headT x ≤ lastT y) : inkAt xs k = false := by
  unfold inkAt; rw [getD_of hx, getD_of hy, decide_eq_false (show ¬ k = 0 by omega), decide_eq_false (show ¬ lastT y < headT x by omega), Bool.or_false, Bool.and_false]
theorem inkAt_good {xs : List (List T3)} {k : Nat} {x y : List T3} (hx : xs[k]? = some x) (hy : xs[k - 1]? = some y) (h : strokeB x = true) (h' : lastT y < headT x) : inkAt xs k = true := by
  unfold inkAt; rw [getD_of hx, getD_of hy, h, decide_eq_true h', Bool.or_true]; rfl
theorem inkB_fail {xs : List (List T3)} {n k : Nat} (hl : xs.length = n) (hk : k < n) (h : inkAt xs k = false) : inkB xs = false := by unfold inkB; rw [hl, rg_fail hk h]; rfl
theorem inkB_end {xs : List (List T3)} {n : Nat} (hl : xs.length = n) (h : (List.range n).all (inkAt xs) = true) : inkB xs = decide (n ≤ 16) := by unfold inkB; rw [hl, h]; rfl
theorem inkB_len {xs : List (List T3)} (h : inkB xs = true) : xs.length ≤ 16 := of_decide_eq_true (Bool.and_eq_true_iff.1 h).2
theorem inkB_at {xs : List (List T3)} (h : inkB xs = true) {k : Nat} {x : List T3} (hx : xs[k]? = some x) : strokeB x = true := by
  have h1 := rg_at (Bool.and_eq_true_iff.1 h).1 (List.getElem?_eq_some_iff.1 hx).1
  unfold inkAt at h1
  rw [getD_of hx] at h1
  exact (Bool.and_eq_true_iff.1 h1).1
theorem inkAt_stroke {xs : List (List T3)} {n k : Nat} {x : List T3} (h : (List.range n).all (inkAt xs) = true) (hk : k < n) (hx : xs[k]? = some x) : strokeB x = true := by
  have h1 := rg_at h hk
  unfold inkAt at h1
  rw [getD_of hx] at h1
  exact (Bool.and_eq_true_iff.1 h1).1
theorem pointT (x y t : Value) (Z : World) : Sem.run Try.prog (Instr.field 54 (.agg #[x, y, t]) 2) Z = .ok t Z := by kernel_rfl
theorem firstOf_rd (A : Option Addr) (n c : Nat) (x : List T3) (p : T3) (w : World) (hr : RdL c3 3 w w.heap.size A n c x) (hp : x[0]? = some p) :
    Calls Try.prog 61 #[.agg #[.slice A n c]] w fun e w' => e = .returned (.agg #[.int .i64 p.1, .int .i64 p.2.1, .int .i64 p.2.2]) ∧ Below w.heap.size w w' := by
  have hn : 0 < n := by have := (List.getElem?_eq_some_iff.1 hp).1; rw [hr.len] at this; exact this
  obtain ⟨b, off, x0, y0, t0, rfl, hbl, hx, q0, q1, q2⟩ := hr.at3 hn
  rw [hx.out] at hp; cases hp
  exact firstOf_any b off c x0 y0 t0 n w hbl (by simpa using q0) (by simpa using q1) (by simpa using q2) hn
theorem lastOf_rd (A : Option Addr) (n c : Nat) (x : List T3) (p : T3) (w : World) (hr : RdL c3 3 w w.heap.size A n c x) (hp : x[n - 1]? = some p) :
    Calls Try.prog 62 #[.agg #[.slice A n c]] w fun e w' => e = .returned (.agg #[.int .i64 p.1, .int .i64 p.2.1, .int .i64 p.2.2]) ∧ Below w.heap.size w w' := by
  have hn : n - 1 < n := by have := (List.getElem?_eq_some_iff.1 hp).1; rw [hr.len] at this; exact this
  have hcap : n ≤ 9223372036854775807 := Nat.le_trans hr.cap hr.capm
  obtain ⟨b, off, x0, y0, t0, rfl, hbl, hx, q0, q1, q2⟩ := hr.at3 hn
  rw [hx.out] at hp; cases hp
  have i1 : (0 : Int) ≤ (n : Int) - 1 := by omega
  have i2 : (n : Int) - 1 < (n : Int) := by omega
  have i3 : IntKind.i64.wrap ((n : Int) - 1) = (n : Int) - 1 := IntWalk.i64_in _ (by omega)
  have i4 : ((n : Int) - 1).toNat = n - 1 := by omega
  clear hr
  go_enter Try.func62, Try.ntmps62
  go_wp2
  exact bodyPost_ret (v := .agg #[.int .i64 x0, .int .i64 y0, .int .i64 t0]) (by simp [results, Try.results62, go_sem]) rfl ⟨rfl, (by repeat (first | exact Below.refl _ _ | assumption | refine Below.drew ?_ | refine below_drewN ?_ _ | refine Below.alloc ?_ (by first | omega | (simp <;> omega)) _ | refine Below.setCell ?_ (by first | omega | (simp <;> omega)) _))⟩
theorem l02Last_any (A : Option Addr) (n c : Nat) (x : List T3) (p : T3) (w : World) (g0 oo : Nat) (K0 : Cel w g0 oo (.slice A n c)) (hr : RdL c3 3 w w.heap.size A n c x) (hp : x[n - 1]? = some p) :
    Calls Try.prog 56 #[.pointer (some ⟨g0, oo, none⟩)] w fun e w' => e = .returned (.int .i64 p.2.2) ∧ Below w.heap.size w w' := by
  have hn : n - 1 < n := by have := (List.getElem?_eq_some_iff.1 hp).1; rw [hr.len] at this; exact this
  have hcap : n ≤ 9223372036854775807 := Nat.le_trans hr.cap hr.capm
  obtain ⟨b, off, x0, y0, t0, rfl, hbl, hx, q0, q1, q2⟩ := hr.at3 hn
  rw [hx.out] at hp; cases hp
  have e0 := K0.cell
  have i1 : (0 : Int) ≤ (n : Int) - 1 := by omega
  have i2 : (n : Int) - 1 < (n : Int) := by omega
  have i3 : IntKind.i64.wrap ((n : Int) - 1) = (n : Int) - 1 := IntWalk.i64_in _ (by omega)
  have i4 : ((n : Int) - 1).toNat = n - 1 := by omega
  clear hr K0
  go_enter Try.func56, Try.ntmps56
  go_wp2
  go_quiet (fail)
  go_wp2
  go_ret
  exact ⟨rfl, (by repeat (first | exact Below.refl _ _ | assumption | refine Below.drew ?_ | refine below_drewN ?_ _ | refine Below.alloc ?_ (by first | omega | (simp <;> omega)) _ | refine Below.setCell ?_ (by first | omega | (simp <;> omega)) _))⟩
set_option maxRecDepth 100000 in
set_option maxHeartbeats 8000000 in
theorem iValidInk_any (A : Option Addr) (n c : Nat) (xs : List (List T3)) (w : World) (hr : NL w w.heap.size A n c xs) (hn : totL xs ≤ 1048576) :
    Calls Try.prog 32 #[.agg #[.slice A n c]] w fun e w' => e = .returned (.bool (inkB xs)) ∧ Below w.heap.size w w' := by
  have hl := Lib.hid hr.len
  have hcap : n ≤ 9223372036854775807 := Nat.le_trans hr.cap hr.capm
  go_enter Try.func32, Try.ntmps32
  go_wp2_with fail
  have K0 := Blk.new (w) 28 #[.slice A n c]
  have hbv : Below (w).heap.size (w) ((w).alloc (.cells #[.slice A n c] 28)) := (Below.refl _ _).alloc (Nat.le_refl _) _
  replace hr := hr.on hbv
  generalize (w).alloc (.cells #[.slice A n c] 28) = v at *
  have hB := hbv
  have e0 := K0.cell 0
  simp only [List.getElem?_toArray, List.getElem?_cons_zero] at e0
  go_wp2_with fail
  go_loopw [3, 4, 8] (fun _ _ i wr => ∃ k : Nat, k ≤ n ∧ i = .int .i64 k ∧ Below v.heap.size v wr ∧ Hid ((List.range k).all (inkAt xs) = true)) (fun _ _ i _ => n - (intOf i).toNat)
  case atStart => exact ⟨0, by omega, rfl, Below.refl _ _, rfl⟩
  case round =>
    obtain ⟨k, hk, rfl, hb, hall⟩ := hrel
    have hbr := below_on hb hB
    have K1 := K0.on hb
    clear e0
    have e0 := K1.cell 0
    simp only [List.getElem?_toArray, List.getElem?_cons_zero] at e0
    have zk := K1.lt
    by_cases hlt : k < n
    · obtain ⟨b, off, A', n', c', x, rfl, hbl, hx, q0, hx3⟩ := (hr.on hb).at_ hlt
      have i1 : (k : Int) < (n : Int) := by omega
      have i2 : (0 : Int) ≤ (k : Int) := by omega
      have hxn : n' ≤ 1048576 := by have h := totL_at hx.out; rw [hx3.len] at h; omega
      have HPREV : Hid (0 < k → ∃ A2 n2 c2 y, xs[k - 1]? = some y ∧ wr.cell? ⟨b, off + (k - 1), none⟩ = some (.slice A2 n2 c2) ∧ RdL c3 3 wr wr.heap.size A2 n2 c2 y) := fun hk0 => by
        obtain ⟨b', off', A2, n2, c2, y, he, _, hy, p0, hy3⟩ := (hr.on hb).at_ (show k - 1 < n by omega)
        cases he
        exact ⟨A2, n2, c2, y, hy.out, p0, hy3⟩
      clear hr K1
      go_wp2_with fail
      have P0 := Blk.new (wr) 52 #[.slice A' n' c']
      have hbwa : Below (wr).heap.size (wr) ((wr).alloc (.cells #[.slice A' n' c'] 52)) := (Below.refl _ _).alloc (Nat.le_refl _) _
      generalize (wr).alloc (.cells #[.slice A' n' c'] 52) = wa at *
      replace e0 := cell_on2 hbwa e0
      have p0 := P0.cell 0
      simp only [List.getElem?_toArray, List.getElem?_cons_zero] at p0
      have zp := P0.lt
      have zw := hbwa.size
      have hbra := below_on hbwa hbr
      have HX := Lib.hid (hx3.on hbwa)
      clear q0 hx3
      have hkw : w.heap.size < wa.heap.size := by omega
      replace hbl : b < wa.heap.size := by omega
      cases hp : strokeB x with
      | false =>
        have HPB := Lib.hid hp
        have F : Hid (inkB xs = false) := inkB_fail hl.out hlt (inkAt_bad hx.out hp)
        go_wp2_with fail
        refine wp_region_held_drew (S := (fun w' => (∀ b o, b < wa.heap.size → w'.cell? ⟨b, o, none⟩ = wa.cell? ⟨b, o, none⟩) ∧ Below wa.heap.size wa w')) (by kernel_rfl) ?_ (fun hHeld => ?_)
        · exact sk (Below.refl _ _).drew
        refine wpAnyH_take (i := 0) (v := ?_) rfl (by kernel_rfl) (by kernel_rfl) (by kernel_rfl) (fun _ _ _ h => h) (Or.inl ⟨by rfl, ?_⟩) (by assumption) ?_
        rotate_left
        · intro w9 hSw; (try dsimp only at hSw); go_simp; (try with_reducible rfl)
        try simp only [Act.put, List.getElem_toArray, List.getElem_cons_zero, List.setIfInBounds_toArray, List.set_cons_zero, List.set_cons_succ]
        refine wpAnyH_ready (rs := [1]) (by kernel_rfl) (by simp) ?_
        refine AllReadyH.cons rfl (fun K hK => ?_) AllReadyH.nil
        go_simp
        (first | (go_at_call 60; with_reducible refine (iValidStroke_any _ _ _ x _ (HX.out.on (Below.refl wa.heap.size wa).drew) hxn).mono ?_; rw [HPB.out]; rintro e w2 ⟨rfl, hbw2⟩))
        go_wp2_with fail
        refine hK.out _ _ ?_ (fun hHeld => ?_)
        · exact sk (below_app hHeld.2 hbw2 (Below.size hHeld.2))
        clear hK K
        try simp only [Act.put, List.getElem_toArray, List.getElem_cons_succ, List.getElem_cons_zero, List.setIfInBounds_toArray, List.set_cons_zero, List.set_cons_succ]
        refine wpAnyH_take (i := 2) (v := ?_) rfl (by kernel_rfl) (by kernel_rfl) (by kernel_rfl) (fun _ _ _ h => h) (Or.inl ⟨by rfl, ?_⟩) (by assumption) ?_
        rotate_left
        · intro w9 hSw; (try dsimp only at hSw); go_simp; (try with_reducible rfl)
        try simp only [Act.put, List.getElem_toArray, List.getElem_cons_succ, List.getElem_cons_zero, List.setIfInBounds_toArray, List.set_cons_zero, List.set_cons_succ]
        refine wpAnyH_take (i := 3) (v := ?_) rfl (by kernel_rfl) (by kernel_rfl) (by kernel_rfl) (fun _ _ _ h => h) (Or.inl ⟨by rfl, ?_⟩) (by assumption) ?_
        rotate_left
        · intro w9 hSw; (try dsimp only at hSw); go_simp; (try with_reducible rfl)
        try simp only [Act.put, List.getElem_toArray, List.getElem_cons_succ, List.getElem_cons_zero, List.setIfInBounds_toArray, List.set_cons_zero, List.set_cons_succ]
        refine wpAnyH_take (i := 4) (v := undef) rfl (by kernel_rfl) (by kernel_rfl) (by kernel_rfl) (fun _ _ _ h => h) (Or.inr ⟨by rfl, rfl⟩) (by assumption) ?_
        try simp only [Act.put, List.getElem_toArray, List.getElem_cons_succ, List.getElem_cons_zero, List.setIfInBounds_toArray, List.set_cons_zero, List.set_cons_succ]
        refine wpAnyH_take (i := 5) (v := undef) rfl (by kernel_rfl) (by kernel_rfl) (by kernel_rfl) (fun _ _ _ h => h) (Or.inr ⟨by rfl, rfl⟩) (by assumption) ?_
        try simp only [Act.put, List.getElem_toArray, List.getElem_cons_succ, List.getElem_cons_zero, List.setIfInBounds_toArray, List.set_cons_zero, List.set_cons_succ]
        refine wpAnyH_take (i := 6) (v := undef) rfl (by kernel_rfl) (by kernel_rfl) (by kernel_rfl) (fun _ _ _ h => h) (Or.inr ⟨by rfl, rfl⟩) (by assumption) ?_
        try simp only [Act.put, List.getElem_toArray, List.getElem_cons_succ, List.getElem_cons_zero, List.setIfInBounds_toArray, List.set_cons_zero, List.set_cons_succ]
        refine wpAnyH_take (i := 7) (v := undef) rfl (by kernel_rfl) (by kernel_rfl) (by kernel_rfl) (fun _ _ _ h => h) (Or.inr ⟨by rfl, rfl⟩) (by assumption) ?_
        try simp only [Act.put, List.getElem_toArray, List.getElem_cons_succ, List.getElem_cons_zero, List.setIfInBounds_toArray, List.set_cons_zero, List.set_cons_succ]
        refine wpAnyH_take (i := 8) (v := undef) rfl (by kernel_rfl) (by kernel_rfl) (by kernel_rfl) (fun _ _ _ h => h) (Or.inr ⟨by rfl, rfl⟩) (by assumption) ?_
        try simp only [Act.put, List.getElem_toArray, List.getElem_cons_succ, List.getElem_cons_zero, List.setIfInBounds_toArray, List.set_cons_zero, List.set_cons_succ]
        refine wpAnyH_take (i := 9) (v := undef) rfl (by kernel_rfl) (by kernel_rfl) (by kernel_rfl) (fun _ _ _ h => h) (Or.inr ⟨by rfl, rfl⟩) (by assumption) ?_
        try simp only [Act.put, List.getElem_toArray, List.getElem_cons_succ, List.getElem_cons_zero, List.setIfInBounds_toArray, List.set_cons_zero, List.set_cons_succ]
        refine wpAnyH_take (i := 10) (v := undef) rfl (by kernel_rfl) (by kernel_rfl) (by kernel_rfl) (fun _ _ _ h => h) (Or.inr ⟨by rfl, rfl⟩) (by assumption) ?_
        try simp only [Act.put, List.getElem_toArray, List.getElem_cons_succ, List.getElem_cons_zero, List.setIfInBounds_toArray, List.set_cons_zero, List.set_cons_succ]
        refine wpAnyH_take (i := 11) (v := undef) rfl (by kernel_rfl) (by kernel_rfl) (by kernel_rfl) (fun _ _ _ h => h) (Or.inr ⟨by rfl, rfl⟩) (by assumption) ?_
        try simp only [Act.put, List.getElem_toArray, List.getElem_cons_succ, List.getElem_cons_zero, List.setIfInBounds_toArray, List.set_cons_zero, List.set_cons_succ]
        refine wpAnyH_take (i := 12) (v := undef) rfl (by kernel_rfl) (by kernel_rfl) (by kernel_rfl) (fun _ _ _ h => h) (Or.inr ⟨by rfl, rfl⟩) (by assumption) ?_
        try simp only [Act.put, List.getElem_toArray, List.getElem_cons_succ, List.getElem_cons_zero, List.setIfInBounds_toArray, List.set_cons_zero, List.set_cons_succ]
        refine wpAnyH_take (i := 13) (v := undef) rfl (by kernel_rfl) (by kernel_rfl) (by kernel_rfl) (fun _ _ _ h => h) (Or.inr ⟨by rfl, rfl⟩) (by assumption) ?_
        try simp only [Act.put, List.getElem_toArray, List.getElem_cons_succ, List.getElem_cons_zero, List.setIfInBounds_toArray, List.set_cons_zero, List.set_cons_succ]
        refine wpAnyH_take (i := 14) (v := undef) rfl (by kernel_rfl) (by kernel_rfl) (by kernel_rfl) (fun _ _ _ h => h) (Or.inr ⟨by rfl, rfl⟩) (by assumption) ?_
        try simp only [Act.put, List.getElem_toArray, List.getElem_cons_succ, List.getElem_cons_zero, List.setIfInBounds_toArray, List.set_cons_zero, List.set_cons_succ]
        refine wpAnyH_take (i := 15) (v := undef) rfl (by kernel_rfl) (by kernel_rfl) (by kernel_rfl) (fun _ _ _ h => h) (Or.inr ⟨by rfl, rfl⟩) (by assumption) ?_
        try simp only [Act.put, List.getElem_toArray, List.getElem_cons_succ, List.getElem_cons_zero, List.setIfInBounds_toArray, List.set_cons_zero, List.set_cons_succ]
        refine wpAnyH_take (i := 16) (v := undef) rfl (by kernel_rfl) (by kernel_rfl) (by kernel_rfl) (fun _ _ _ h => h) (Or.inr ⟨by rfl, rfl⟩) (by assumption) ?_
        try simp only [Act.put, List.getElem_toArray, List.getElem_cons_succ, List.getElem_cons_zero, List.setIfInBounds_toArray, List.set_cons_zero, List.set_cons_succ]
        refine wpAnyH_take (i := 17) (v := undef) rfl (by kernel_rfl) (by kernel_rfl) (by kernel_rfl) (fun _ _ _ h => h) (Or.inr ⟨by rfl, rfl⟩) (by assumption) ?_
        try simp only [Act.put, List.getElem_toArray, List.getElem_cons_succ, List.getElem_cons_zero, List.setIfInBounds_toArray, List.set_cons_zero, List.set_cons_succ]
        refine wpAnyH_take (i := 18) (v := undef) rfl (by kernel_rfl) (by kernel_rfl) (by kernel_rfl) (fun _ _ _ h => h) (Or.inr ⟨by rfl, rfl⟩) (by assumption) ?_
        try simp only [Act.put, List.getElem_toArray, List.getElem_cons_succ, List.getElem_cons_zero, List.setIfInBounds_toArray, List.set_cons_zero, List.set_cons_succ]
        refine wpAnyH_take (i := 19) (v := undef) rfl (by kernel_rfl) (by kernel_rfl) (by kernel_rfl) (fun _ _ _ h => h) (Or.inr ⟨by rfl, rfl⟩) (by assumption) ?_
        try simp only [Act.put, List.getElem_toArray, List.getElem_cons_succ, List.getElem_cons_zero, List.setIfInBounds_toArray, List.set_cons_zero, List.set_cons_succ]
        refine wpAnyH_take (i := 20) (v := ?_) rfl (by kernel_rfl) (by kernel_rfl) (by kernel_rfl) (fun _ _ _ h => h) (Or.inl ⟨by rfl, ?_⟩) (by assumption) ?_
        rotate_left
        · intro w9 hSw; (try dsimp only at hSw); go_simp; (try with_reducible rfl)
        try simp only [Act.put, List.getElem_toArray, List.getElem_cons_succ, List.getElem_cons_zero, List.setIfInBounds_toArray, List.set_cons_zero, List.set_cons_succ]
        refine wpAnyH_done (by kernel_rfl) ?_ _
        have hbf : Below w.heap.size w w2 := below_app hbra hHeld.2 hbra.size
        have hbv2 : Below v.heap.size v w2 := below_app (below_on hbwa hb) hHeld.2 (below_on hbwa hb).size
        go_wp2
        go_ret
        exact ⟨ret_bool F.out.symm, hbf⟩
      | true =>
        have HPB := Lib.hid hp
        by_cases hk0 : 0 < k
        · obtain ⟨A2, n2, c2, y, hy, p9, hy3⟩ := HPREV.out hk0
          have HYS : Hid (strokeB y = true) := inkAt_stroke hall.out (show k - 1 < k by omega) hy
          have hxl := strokeB_len hp
          have hyl := strokeB_len HYS.out
          have hxe := HX.out.len
          have hye := hy3.len
          obtain ⟨px, hpx⟩ : ∃ px, x[0]? = some px := ⟨_, List.getElem?_eq_getElem (show 0 < x.length by omega)⟩
          obtain ⟨py, hpy⟩ : ∃ py, y[n2 - 1]? = some py := ⟨_, List.getElem?_eq_getElem (show n2 - 1 < y.length by omega)⟩
          have hT1 : headT x = px.2.2 := by unfold headT; rw [getD_of hpx]
          have hT2 : lastT y = py.2.2 := by unfold lastT; rw [hye, getD_of hpy]
          have HQ := Lib.hid hy
          have HH := Lib.hid hpx
          have HL := Lib.hid hpy
          have HY := Lib.hid (hy3.on hbwa)
          replace p9 := cell_on2 hbwa p9
          have hF1 := pointT (.int .i64 px.1) (.int .i64 px.2.1) (.int .i64 px.2.2)
          have hF2 := pointT (.int .i64 py.1) (.int .i64 py.2.1) (.int .i64 py.2.2)
          clear hy hpx hpy hy3 HPREV
          have hk0' : (0 : Int) < (k : Int) := by omega
          have o1 : IntKind.i64.wrap ((k : Int) - 1) = (k : Int) - 1 := IntWalk.i64_in _ (by omega)
          have o2 : (0 : Int) ≤ (k : Int) - 1 := by omega
          have o5 : (1 : Int) ≤ (k : Int) := by omega
          have o3 : (k : Int) - 1 < (n : Int) := by omega
          have o4 : ((k : Int) - 1).toNat = k - 1 := by omega
          clear hxl hyl hxe hye
          by_cases ht : px.2.2 ≤ py.2.2
          · have ht2 := Lib.hid (show headT x ≤ lastT y by rw [hT1, hT2]; exact ht)
            clear hT1 hT2
            have F : Hid (inkB xs = false) := inkB_fail hl.out hlt (inkAt_late hx.out HQ.out hk0 ht2.out)
            go_wp2_with fail
            go_region_held3 (fun w' => (∀ b o, b < wa.heap.size → w'.cell? ⟨b, o, none⟩ = wa.cell? ⟨b, o, none⟩) ∧ Below wa.heap.size wa w') (first | exact sk (Below.refl _ _).drew | (go_split_ands; (first | (exact sk (below_app ‹_› hbw4 (Below.size ‹_›))) | (exact sk (below_app ‹_› hbw3 (Below.size ‹_›))) | (exact sk (below_app ‹_› hbw2 (Below.size ‹_›)))))) (first | (go_at_call 60; with_reducible refine (iValidStroke_any _ _ _ x _ (HX.out.on (Below.refl wa.heap.size wa).drew) hxn).mono ?_; rw [HPB.out]; rintro e w2 ⟨rfl, hbw2⟩) | (go_at_call 61; with_reducible refine (firstOf_rd _ _ _ x _ _ (HX.out.on (below_on hbw2 (Below.refl wa.heap.size wa).drew)) HH.out).mono ?_; rintro e w3 ⟨rfl, hbw3⟩) | (go_at_call 62; with_reducible refine (lastOf_rd _ _ _ y _ _ (HY.out.on (below_on hbw3 (below_on hbw2 (Below.refl wa.heap.size wa).drew))) HL.out).mono ?_; rintro e w4 ⟨rfl, hbw4⟩))
            go_split_ands
            have hbf : Below w.heap.size w w4 := below_app hbra ‹Below wa.heap.size wa w4› hbra.size
            have hbv2 : Below v.heap.size v w4 := below_app (below_on hbwa hb) ‹Below wa.heap.size wa w4› (below_on hbwa hb).size
            go_wp2
            go_ret
            exact ⟨ret_bool F.out.symm, hbf⟩
          · have ht2 := Lib.hid (show lastT y < headT x by rw [hT1, hT2]; show py.2.2 < px.2.2; omega)
            have ht' : py.2.2 < px.2.2 := by omega
            clear hT1 hT2
            have F : Hid (inkAt xs k = true) := inkAt_good hx.out HQ.out HPB.out ht2.out
            go_wp2_with fail
            go_region_held3 (fun w' => (∀ b o, b < wa.heap.size → w'.cell? ⟨b, o, none⟩ = wa.cell? ⟨b, o, none⟩) ∧ Below wa.heap.size wa w') (first | exact sk (Below.refl _ _).drew | (go_split_ands; (first | (exact sk (below_app ‹_› hbw4 (Below.size ‹_›))) | (exact sk (below_app ‹_› hbw3 (Below.size ‹_›))) | (exact sk (below_app ‹_› hbw2 (Below.size ‹_›)))))) (first | (go_at_call 60; with_reducible refine (iValidStroke_any _ _ _ x _ (HX.out.on (Below.refl wa.heap.size wa).drew) hxn).mono ?_; rw [HPB.out]; rintro e w2 ⟨rfl, hbw2⟩) | (go_at_call 61; with_reducible refine (firstOf_rd _ _ _ x _ _ (HX.out.on (below_on hbw2 (Below.refl wa.heap.size wa).drew)) HH.out).mono ?_; rintro e w3 ⟨rfl, hbw3⟩) | (go_at_call 62; with_reducible refine (lastOf_rd _ _ _ y _ _ (HY.out.on (below_on hbw3 (below_on hbw2 (Below.refl wa.heap.size wa).drew))) HL.out).mono ?_; rintro e w4 ⟨rfl, hbw4⟩))
            go_split_ands
            have hbf : Below w.heap.size w w4 := below_app hbra ‹Below wa.heap.size wa w4› hbra.size
            have hbv2 : Below v.heap.size v w4 := below_app (below_on hbwa hb) ‹Below wa.heap.size wa w4› (below_on hbwa hb).size
            go_wp2
            exact ⟨⟨k + 1, by omega, by go_num, hbv2, rg_step hall.out F.out⟩, by simp [intOf]; omega⟩
        · have hk0' : ¬ (0 : Int) < (k : Int) := by omega
          have hk1 : (k : Int) ≤ 0 := by omega
          have F : Hid (inkAt xs k = true) := inkAt_zero hx.out hp (by omega)
          go_wp2_with fail
          refine wp_region_held_drew (S := (fun w' => (∀ b o, b < wa.heap.size → w'.cell? ⟨b, o, none⟩ = wa.cell? ⟨b, o, none⟩) ∧ Below wa.heap.size wa w')) (by kernel_rfl) ?_ (fun hHeld => ?_)
          · exact sk (Below.refl _ _).drew
          refine wpAnyH_take (i := 0) (v := ?_) rfl (by kernel_rfl) (by kernel_rfl) (by kernel_rfl) (fun _ _ _ h => h) (Or.inl ⟨by rfl, ?_⟩) (by assumption) ?_
          rotate_left
          · intro w9 hSw; (try dsimp only at hSw); go_simp; (try with_reducible rfl)
          try simp only [Act.put, List.getElem_toArray, List.getElem_cons_zero, List.setIfInBounds_toArray, List.set_cons_zero, List.set_cons_succ]
          refine wpAnyH_ready (rs := [1]) (by kernel_rfl) (by simp) ?_
          refine AllReadyH.cons rfl (fun K hK => ?_) AllReadyH.nil
          go_simp
          (first | (go_at_call 60; with_reducible refine (iValidStroke_any _ _ _ x _ (HX.out.on (Below.refl wa.heap.size wa).drew) hxn).mono ?_; rw [HPB.out]; rintro e w2 ⟨rfl, hbw2⟩))
          go_wp2_with fail
          refine hK.out _ _ ?_ (fun hHeld => ?_)
          · exact sk (below_app hHeld.2 hbw2 (Below.size hHeld.2))
          clear hK K
          try simp only [Act.put, List.getElem_toArray, List.getElem_cons_succ, List.getElem_cons_zero, List.setIfInBounds_toArray, List.set_cons_zero, List.set_cons_succ]
          refine wpAnyH_take (i := 2) (v := ?_) rfl (by kernel_rfl) (by kernel_rfl) (by kernel_rfl) (fun _ _ _ h => h) (Or.inl ⟨by rfl, ?_⟩) (by assumption) ?_
          rotate_left
          · intro w9 hSw; (try dsimp only at hSw); go_simp; (try with_reducible rfl)
          try simp only [Act.put, List.getElem_toArray, List.getElem_cons_succ, List.getElem_cons_zero, List.setIfInBounds_toArray, List.set_cons_zero, List.set_cons_succ]
          refine wpAnyH_take (i := 3) (v := ?_) rfl (by kernel_rfl) (by kernel_rfl) (by kernel_rfl) (fun _ _ _ h => h) (Or.inl ⟨by rfl, ?_⟩) (by assumption) ?_
          rotate_left
          · intro w9 hSw; (try dsimp only at hSw); go_simp; (try with_reducible rfl)
          try simp only [Act.put, List.getElem_toArray, List.getElem_cons_succ, List.getElem_cons_zero, List.setIfInBounds_toArray, List.set_cons_zero, List.set_cons_succ]
          refine wpAnyH_take (i := 4) (v := ?_) rfl (by kernel_rfl) (by kernel_rfl) (by kernel_rfl) (fun _ _ _ h => h) (Or.inl ⟨by rfl, ?_⟩) (by assumption) ?_
          rotate_left
          · intro w9 hSw; (try dsimp only at hSw); go_simp; (try with_reducible rfl)
          try simp only [Act.put, List.getElem_toArray, List.getElem_cons_succ, List.getElem_cons_zero, List.setIfInBounds_toArray, List.set_cons_zero, List.set_cons_succ]
          refine wpAnyH_take (i := 5) (v := ?_) rfl (by kernel_rfl) (by kernel_rfl) (by kernel_rfl) (fun _ _ _ h => h) (Or.inl ⟨by rfl, ?_⟩) (by assumption) ?_
          rotate_left
          · intro w9 hSw; (try dsimp only at hSw); go_simp; (try with_reducible rfl)
          try simp only [Act.put, List.getElem_toArray, List.getElem_cons_succ, List.getElem_cons_zero, List.setIfInBounds_toArray, List.set_cons_zero, List.set_cons_succ]
          refine wpAnyH_take (i := 6) (v := ?_) rfl (by kernel_rfl) (by kernel_rfl) (by kernel_rfl) (fun _ _ _ h => h) (Or.inl ⟨by rfl, ?_⟩) (by assumption) ?_
          rotate_left
          · intro w9 hSw; (try dsimp only at hSw); go_simp; (try with_reducible rfl)
          try simp only [Act.put, List.getElem_toArray, List.getElem_cons_succ, List.getElem_cons_zero, List.setIfInBounds_toArray, List.set_cons_zero, List.set_cons_succ]
          refine wpAnyH_take (i := 7) (v := undef) rfl (by kernel_rfl) (by kernel_rfl) (by kernel_rfl) (fun _ _ _ h => h) (Or.inr ⟨by rfl, rfl⟩) (by assumption) ?_
          try simp only [Act.put, List.getElem_toArray, List.getElem_cons_succ, List.getElem_cons_zero, List.setIfInBounds_toArray, List.set_cons_zero, List.set_cons_succ]
          refine wpAnyH_take (i := 8) (v := undef) rfl (by kernel_rfl) (by kernel_rfl) (by kernel_rfl) (fun _ _ _ h => h) (Or.inr ⟨by rfl, rfl⟩) (by assumption) ?_
          try simp only [Act.put, List.getElem_toArray, List.getElem_cons_succ, List.getElem_cons_zero, List.setIfInBounds_toArray, List.set_cons_zero, List.set_cons_succ]
          refine wpAnyH_take (i := 9) (v := undef) rfl (by kernel_rfl) (by kernel_rfl) (by kernel_rfl) (fun _ _ _ h => h) (Or.inr ⟨by rfl, rfl⟩) (by assumption) ?_
          try simp only [Act.put, List.getElem_toArray, List.getElem_cons_succ, List.getElem_cons_zero, List.setIfInBounds_toArray, List.set_cons_zero, List.set_cons_succ]
          refine wpAnyH_take (i := 10) (v := undef) rfl (by kernel_rfl) (by kernel_rfl) (by kernel_rfl) (fun _ _ _ h => h) (Or.inr ⟨by rfl, rfl⟩) (by assumption) ?_
          try simp only [Act.put, List.getElem_toArray, List.getElem_cons_succ, List.getElem_cons_zero, List.setIfInBounds_toArray, List.set_cons_zero, List.set_cons_succ]
          refine wpAnyH_take (i := 11) (v := undef) rfl (by kernel_rfl) (by kernel_rfl) (by kernel_rfl) (fun _ _ _ h => h) (Or.inr ⟨by rfl, rfl⟩) (by assumption) ?_
          try simp only [Act.put, List.getElem_toArray, List.getElem_cons_succ, List.getElem_cons_zero, List.setIfInBounds_toArray, List.set_cons_zero, List.set_cons_succ]
          refine wpAnyH_take (i := 12) (v := undef) rfl (by kernel_rfl) (by kernel_rfl) (by kernel_rfl) (fun _ _ _ h => h) (Or.inr ⟨by rfl, rfl⟩) (by assumption) ?_
          try simp only [Act.put, List.getElem_toArray, List.getElem_cons_succ, List.getElem_cons_zero, List.setIfInBounds_toArray, List.set_cons_zero, List.set_cons_succ]
          refine wpAnyH_take (i := 13) (v := undef) rfl (by kernel_rfl) (by kernel_rfl) (by kernel_rfl) (fun _ _ _ h => h) (Or.inr ⟨by rfl, rfl⟩) (by assumption) ?_
          try simp only [Act.put, List.getElem_toArray, List.getElem_cons_succ, List.getElem_cons_zero, List.setIfInBounds_toArray, List.set_cons_zero, List.set_cons_succ]
          refine wpAnyH_take (i := 14) (v := undef) rfl (by kernel_rfl) (by kernel_rfl) (by kernel_rfl) (fun _ _ _ h => h) (Or.inr ⟨by rfl, rfl⟩) (by assumption) ?_
          try simp only [Act.put, List.getElem_toArray, List.getElem_cons_succ, List.getElem_cons_zero, List.setIfInBounds_toArray, List.set_cons_zero, List.set_cons_succ]
          refine wpAnyH_take (i := 15) (v := undef) rfl (by kernel_rfl) (by kernel_rfl) (by kernel_rfl) (fun _ _ _ h => h) (Or.inr ⟨by rfl, rfl⟩) (by assumption) ?_
          try simp only [Act.put, List.getElem_toArray, List.getElem_cons_succ, List.getElem_cons_zero, List.setIfInBounds_toArray, List.set_cons_zero, List.set_cons_succ]
          refine wpAnyH_take (i := 16) (v := undef) rfl (by kernel_rfl) (by kernel_rfl) (by kernel_rfl) (fun _ _ _ h => h) (Or.inr ⟨by rfl, rfl⟩) (by assumption) ?_
          try simp only [Act.put, List.getElem_toArray, List.getElem_cons_succ, List.getElem_cons_zero, List.setIfInBounds_toArray, List.set_cons_zero, List.set_cons_succ]
          refine wpAnyH_take (i := 17) (v := undef) rfl (by kernel_rfl) (by kernel_rfl) (by kernel_rfl) (fun _ _ _ h => h) (Or.inr ⟨by rfl, rfl⟩) (by assumption) ?_
          try simp only [Act.put, List.getElem_toArray, List.getElem_cons_succ, List.getElem_cons_zero, List.setIfInBounds_toArray, List.set_cons_zero, List.set_cons_succ]
          refine wpAnyH_take (i := 18) (v := undef) rfl (by kernel_rfl) (by kernel_rfl) (by kernel_rfl) (fun _ _ _ h => h) (Or.inr ⟨by rfl, rfl⟩) (by assumption) ?_
          try simp only [Act.put, List.getElem_toArray, List.getElem_cons_succ, List.getElem_cons_zero, List.setIfInBounds_toArray, List.set_cons_zero, List.set_cons_succ]
          refine wpAnyH_take (i := 19) (v := ?_) rfl (by kernel_rfl) (by kernel_rfl) (by kernel_rfl) (fun _ _ _ h => h) (Or.inl ⟨by rfl, ?_⟩) (by assumption) ?_
          rotate_left
          · intro w9 hSw; (try dsimp only at hSw); go_simp; (try with_reducible rfl)
          try simp only [Act.put, List.getElem_toArray, List.getElem_cons_succ, List.getElem_cons_zero, List.setIfInBounds_toArray, List.set_cons_zero, List.set_cons_succ]
          refine wpAnyH_take (i := 20) (v := ?_) rfl (by kernel_rfl) (by kernel_rfl) (by kernel_rfl) (fun _ _ _ h => h) (Or.inl ⟨by rfl, ?_⟩) (by assumption) ?_
          rotate_left
          · intro w9 hSw; (try dsimp only at hSw); go_simp; (try with_reducible rfl)
          try simp only [Act.put, List.getElem_toArray, List.getElem_cons_succ, List.getElem_cons_zero, List.setIfInBounds_toArray, List.set_cons_zero, List.set_cons_succ]
          refine wpAnyH_done (by kernel_rfl) ?_ _
          have hbf : Below w.heap.size w w2 := below_app hbra hHeld.2 hbra.size
          have hbv2 : Below v.heap.size v w2 := below_app (below_on hbwa hb) hHeld.2 (below_on hbwa hb).size
          go_wp2
          exact ⟨⟨k + 1, by omega, by go_num, hbv2, rg_step hall.out F.out⟩, by simp [intOf]; omega⟩
    · have hkn : k = n := by omega
      subst hkn
      clear hr K1
      have F : Hid (inkB xs = decide (k ≤ 16)) := inkB_end hl.out hall.out
      by_cases h16 : k ≤ 16
      · have F2 : Hid (inkB xs = true) := by show _ = _; rw [F.out, decide_eq_true h16]
        have i9 : (k : Int) ≤ 16 := by omega
        go_wp2
        go_ret
        exact ⟨ret_bool F2.out.symm, hbr⟩
      · have F2 : Hid (inkB xs = false) := by show _ = _; rw [F.out, decide_eq_false h16]
        have i9 : ¬ (k : Int) ≤ 16 := by omega
        go_wp2
        go_ret
        exact ⟨ret_bool F2.out.symm, hbr⟩
set_option maxRecDepth 100000 in
set_option maxHeartbeats 8000000 in
theorem l02Ok_ptr (A : Option Addr) (n c : Nat) (xs : List (List T3)) (w : World) (g0 oo : Nat) (K0 : Cel w g0 oo (.slice A n c)) (hr : NL w w.heap.size A n c xs) (hn : totL xs ≤ 1048576) :
    Calls Try.prog 27 #[.pointer (some ⟨g0, oo, none⟩)] w fun e w' => e = .returned (.bool (inkB xs)) ∧ Below w.heap.size w w' := by
  have hl := Lib.hid hr.len
  have hcap : n ≤ 9223372036854775807 := Nat.le_trans hr.cap hr.capm
  go_enter Try.func27, Try.ntmps27
  go_wp2_with fail
  have hB : Below w.heap.size w w := Below.refl _ _
  obtain ⟨v, hv⟩ : ∃ v, v = w := ⟨w, rfl⟩
  rw [← hv] at K0 hr
  conv at hB => rhs; rw [← hv]
  rw [← hv]
  have e0 := K0.cell
  try go_wp2_with fail
  go_loopw [3] (fun i wr => ∃ k : Nat, k ≤ n ∧ i = .int .i64 k ∧ Below v.heap.size v wr ∧ Hid ((List.range k).all (inkAt xs) = true)) (fun i _ => n - (intOf i).toNat)
  case atStart => exact ⟨0, by omega, rfl, Below.refl _ _, rfl⟩
  case round =>
    obtain ⟨k, hk, rfl, hb, hall⟩ := hrel
    have hbr := below_on hb hB
    have K1 := K0.on hb
    clear e0
    have e0 := K1.cell
    have zk := K1.lt
    by_cases hlt : k < n
    · obtain ⟨b, off, A', n', c', x, rfl, hbl, hx, q0, hx3⟩ := (hr.on hb).at_ hlt
      have i1 : (k : Int) < (n : Int) := by omega
      have i2 : (0 : Int) ≤ (k : Int) := by omega
      have hxn : n' ≤ 1048576 := by have h := totL_at hx.out; rw [hx3.len] at h; omega
      have HPREV : Hid (0 < k → ∃ A2 n2 c2 y, xs[k - 1]? = some y ∧ wr.cell? ⟨b, off + (k - 1), none⟩ = some (.slice A2 n2 c2) ∧ RdL c3 3 wr wr.heap.size A2 n2 c2 y) := fun hk0 => by
        obtain ⟨b', off', A2, n2, c2, y, he, _, hy, p0, hy3⟩ := (hr.on hb).at_ (show k - 1 < n by omega)
        cases he
        exact ⟨A2, n2, c2, y, hy.out, p0, hy3⟩
      clear hr K1
      have hbwa : Below wr.heap.size wr wr := Below.refl _ _
      have hbra := hbr
      have HX := Lib.hid hx3
      have HC := Lib.hid (show Cel wr b (off + k) (.slice A' n' c') from ⟨hbl, q0⟩)
      clear hx3
      cases hp : strokeB x with
      | false =>
        have HPB := Lib.hid hp
        have F : Hid (inkB xs = false) := inkB_fail hl.out hlt (inkAt_bad hx.out hp)
        go_wp2_with fail
        refine wp_region_held_drew (S := (fun w' => (∀ b o, b < wr.heap.size → w'.cell? ⟨b, o, none⟩ = wr.cell? ⟨b, o, none⟩) ∧ Below wr.heap.size wr w')) (by kernel_rfl) ?_ (fun hHeld => ?_)
        · exact sk (Below.refl _ _).drew
        refine wpAnyH_take (i := 0) (v := ?_) rfl (by kernel_rfl) (by kernel_rfl) (by kernel_rfl) (fun _ _ _ h => h) (Or.inl ⟨by rfl, ?_⟩) (by assumption) ?_
        rotate_left
        · intro w9 hSw; (try dsimp only at hSw); go_simp; (try with_reducible rfl)
        try simp only [Act.put, List.getElem_toArray, List.getElem_cons_zero, List.setIfInBounds_toArray, List.set_cons_zero, List.set_cons_succ]
        refine wpAnyH_take (i := 1) (v := ?_) rfl (by kernel_rfl) (by kernel_rfl) (by kernel_rfl) (fun _ _ _ h => h) (Or.inl ⟨by rfl, ?_⟩) (by assumption) ?_
        rotate_left
        · intro w9 hSw; (try dsimp only at hSw); go_simp; (try with_reducible rfl)
        try simp only [Act.put, List.getElem_toArray, List.getElem_cons_succ, List.getElem_cons_zero, List.setIfInBounds_toArray, List.set_cons_zero, List.set_cons_succ]
        refine wpAnyH_take (i := 2) (v := ?_) rfl (by kernel_rfl) (by kernel_rfl) (by kernel_rfl) (fun _ _ _ h => h) (Or.inl ⟨by rfl, ?_⟩) (by assumption) ?_
        rotate_left
        · intro w9 hSw; (try dsimp only at hSw); go_simp; (try with_reducible rfl)
        try simp only [Act.put, List.getElem_toArray, List.getElem_cons_succ, List.getElem_cons_zero, List.setIfInBounds_toArray, List.set_cons_zero, List.set_cons_succ]
        refine wpAnyH_take (i := 3) (v := ?_) rfl (by kernel_rfl) (by kernel_rfl) (by kernel_rfl) (fun _ _ _ h => h) (Or.inl ⟨by rfl, ?_⟩) (by assumption) ?_
        rotate_left
        · intro w9 hSw; (try dsimp only at hSw); go_simp; (try with_reducible rfl)
        try simp only [Act.put, List.getElem_toArray, List.getElem_cons_succ, List.getElem_cons_zero, List.setIfInBounds_toArray, List.set_cons_zero, List.set_cons_succ]
        refine wpAnyH_take (i := 4) (v := ?_) rfl (by kernel_rfl) (by kernel_rfl) (by kernel_rfl) (fun _ _ _ h => h) (Or.inl ⟨by rfl, ?_⟩) (by assumption) ?_
        rotate_left
        · intro w9 hSw; (try dsimp only at hSw); go_simp; (try with_reducible rfl)
        try simp only [Act.put, List.getElem_toArray, List.getElem_cons_succ, List.getElem_cons_zero, List.setIfInBounds_toArray, List.set_cons_zero, List.set_cons_succ]
        refine wpAnyH_take (i := 5) (v := ?_) rfl (by kernel_rfl) (by kernel_rfl) (by kernel_rfl) (fun _ _ _ h => h) (Or.inl ⟨by rfl, ?_⟩) (by assumption) ?_
        rotate_left
        · intro w9 hSw; (try dsimp only at hSw); go_simp; (try with_reducible rfl)
        try simp only [Act.put, List.getElem_toArray, List.getElem_cons_succ, List.getElem_cons_zero, List.setIfInBounds_toArray, List.set_cons_zero, List.set_cons_succ]
        refine wpAnyH_ready (rs := [6]) (by kernel_rfl) (by simp) ?_
        refine AllReadyH.cons rfl (fun K hK => ?_) AllReadyH.nil
        go_simp
        (first | (go_at_call 55; with_reducible refine (l02Stroke_ptr _ _ _ x _ _ _ (HC.out.on (Below.refl wr.heap.size wr).drew) (HX.out.on (Below.refl wr.heap.size wr).drew) hxn).mono ?_; rw [HPB.out]; rintro e w2 ⟨rfl, hbw2⟩))
        go_wp2_with fail
        refine hK.out _ _ ?_ (fun hHeld => ?_)
        · exact sk (below_app hHeld.2 hbw2 (Below.size hHeld.2))
        clear hK K
        try simp only [Act.put, List.getElem_toArray, List.getElem_cons_succ, List.getElem_cons_zero, List.setIfInBounds_toArray, List.set_cons_zero, List.set_cons_succ]
        refine wpAnyH_take (i := 7) (v := ?_) rfl (by kernel_rfl) (by kernel_rfl) (by kernel_rfl) (fun _ _ _ h => h) (Or.inl ⟨by rfl, ?_⟩) (by assumption) ?_
        rotate_left
        · intro w9 hSw; (try dsimp only at hSw); go_simp; (try with_reducible rfl)
        try simp only [Act.put, List.getElem_toArray, List.getElem_cons_succ, List.getElem_cons_zero, List.setIfInBounds_toArray, List.set_cons_zero, List.set_cons_succ]
        refine wpAnyH_take (i := 8) (v := ?_) rfl (by kernel_rfl) (by kernel_rfl) (by kernel_rfl) (fun _ _ _ h => h) (Or.inl ⟨by rfl, ?_⟩) (by assumption) ?_
        rotate_left
        · intro w9 hSw; (try dsimp only at hSw); go_simp; (try with_reducible rfl)
        try simp only [Act.put, List.getElem_toArray, List.getElem_cons_succ, List.getElem_cons_zero, List.setIfInBounds_toArray, List.set_cons_zero, List.set_cons_succ]
        refine wpAnyH_take (i := 9) (v := undef) rfl (by kernel_rfl) (by kernel_rfl) (by kernel_rfl) (fun _ _ _ h => h) (Or.inr ⟨by rfl, rfl⟩) (by assumption) ?_
        try simp only [Act.put, List.getElem_toArray, List.getElem_cons_succ, List.getElem_cons_zero, List.setIfInBounds_toArray, List.set_cons_zero, List.set_cons_succ]
        refine wpAnyH_take (i := 10) (v := undef) rfl (by kernel_rfl) (by kernel_rfl) (by kernel_rfl) (fun _ _ _ h => h) (Or.inr ⟨by rfl, rfl⟩) (by assumption) ?_
        try simp only [Act.put, List.getElem_toArray, List.getElem_cons_succ, List.getElem_cons_zero, List.setIfInBounds_toArray, List.set_cons_zero, List.set_cons_succ]
        refine wpAnyH_take (i := 11) (v := undef) rfl (by kernel_rfl) (by kernel_rfl) (by kernel_rfl) (fun _ _ _ h => h) (Or.inr ⟨by rfl, rfl⟩) (by assumption) ?_
        try simp only [Act.put, List.getElem_toArray, List.getElem_cons_succ, List.getElem_cons_zero, List.setIfInBounds_toArray, List.set_cons_zero, List.set_cons_succ]
        refine wpAnyH_take (i := 12) (v := undef) rfl (by kernel_rfl) (by kernel_rfl) (by kernel_rfl) (fun _ _ _ h => h) (Or.inr ⟨by rfl, rfl⟩) (by assumption) ?_
        try simp only [Act.put, List.getElem_toArray, List.getElem_cons_succ, List.getElem_cons_zero, List.setIfInBounds_toArray, List.set_cons_zero, List.set_cons_succ]
        refine wpAnyH_take (i := 13) (v := undef) rfl (by kernel_rfl) (by kernel_rfl) (by kernel_rfl) (fun _ _ _ h => h) (Or.inr ⟨by rfl, rfl⟩) (by assumption) ?_
        try simp only [Act.put, List.getElem_toArray, List.getElem_cons_succ, List.getElem_cons_zero, List.setIfInBounds_toArray, List.set_cons_zero, List.set_cons_succ]
        refine wpAnyH_take (i := 14) (v := undef) rfl (by kernel_rfl) (by kernel_rfl) (by kernel_rfl) (fun _ _ _ h => h) (Or.inr ⟨by rfl, rfl⟩) (by assumption) ?_
        try simp only [Act.put, List.getElem_toArray, List.getElem_cons_succ, List.getElem_cons_zero, List.setIfInBounds_toArray, List.set_cons_zero, List.set_cons_succ]
        refine wpAnyH_take (i := 15) (v := undef) rfl (by kernel_rfl) (by kernel_rfl) (by kernel_rfl) (fun _ _ _ h => h) (Or.inr ⟨by rfl, rfl⟩) (by assumption) ?_
        try simp only [Act.put, List.getElem_toArray, List.getElem_cons_succ, List.getElem_cons_zero, List.setIfInBounds_toArray, List.set_cons_zero, List.set_cons_succ]
        refine wpAnyH_take (i := 16) (v := undef) rfl (by kernel_rfl) (by kernel_rfl) (by kernel_rfl) (fun _ _ _ h => h) (Or.inr ⟨by rfl, rfl⟩) (by assumption) ?_
        try simp only [Act.put, List.getElem_toArray, List.getElem_cons_succ, List.getElem_cons_zero, List.setIfInBounds_toArray, List.set_cons_zero, List.set_cons_succ]
        refine wpAnyH_take (i := 17) (v := undef) rfl (by kernel_rfl) (by kernel_rfl) (by kernel_rfl) (fun _ _ _ h => h) (Or.inr ⟨by rfl, rfl⟩) (by assumption) ?_
        try simp only [Act.put, List.getElem_toArray, List.getElem_cons_succ, List.getElem_cons_zero, List.setIfInBounds_toArray, List.set_cons_zero, List.set_cons_succ]
        refine wpAnyH_take (i := 18) (v := undef) rfl (by kernel_rfl) (by kernel_rfl) (by kernel_rfl) (fun _ _ _ h => h) (Or.inr ⟨by rfl, rfl⟩) (by assumption) ?_
        try simp only [Act.put, List.getElem_toArray, List.getElem_cons_succ, List.getElem_cons_zero, List.setIfInBounds_toArray, List.set_cons_zero, List.set_cons_succ]
        refine wpAnyH_take (i := 19) (v := undef) rfl (by kernel_rfl) (by kernel_rfl) (by kernel_rfl) (fun _ _ _ h => h) (Or.inr ⟨by rfl, rfl⟩) (by assumption) ?_
        try simp only [Act.put, List.getElem_toArray, List.getElem_cons_succ, List.getElem_cons_zero, List.setIfInBounds_toArray, List.set_cons_zero, List.set_cons_succ]
        refine wpAnyH_take (i := 20) (v := undef) rfl (by kernel_rfl) (by kernel_rfl) (by kernel_rfl) (fun _ _ _ h => h) (Or.inr ⟨by rfl, rfl⟩) (by assumption) ?_
        try simp only [Act.put, List.getElem_toArray, List.getElem_cons_succ, List.getElem_cons_zero, List.setIfInBounds_toArray, List.set_cons_zero, List.set_cons_succ]
        refine wpAnyH_take (i := 21) (v := undef) rfl (by kernel_rfl) (by kernel_rfl) (by kernel_rfl) (fun _ _ _ h => h) (Or.inr ⟨by rfl, rfl⟩) (by assumption) ?_
        try simp only [Act.put, List.getElem_toArray, List.getElem_cons_succ, List.getElem_cons_zero, List.setIfInBounds_toArray, List.set_cons_zero, List.set_cons_succ]
        refine wpAnyH_take (i := 22) (v := undef) rfl (by kernel_rfl) (by kernel_rfl) (by kernel_rfl) (fun _ _ _ h => h) (Or.inr ⟨by rfl, rfl⟩) (by assumption) ?_
        try simp only [Act.put, List.getElem_toArray, List.getElem_cons_succ, List.getElem_cons_zero, List.setIfInBounds_toArray, List.set_cons_zero, List.set_cons_succ]
        refine wpAnyH_take (i := 23) (v := undef) rfl (by kernel_rfl) (by kernel_rfl) (by kernel_rfl) (fun _ _ _ h => h) (Or.inr ⟨by rfl, rfl⟩) (by assumption) ?_
        try simp only [Act.put, List.getElem_toArray, List.getElem_cons_succ, List.getElem_cons_zero, List.setIfInBounds_toArray, List.set_cons_zero, List.set_cons_succ]
        refine wpAnyH_take (i := 24) (v := undef) rfl (by kernel_rfl) (by kernel_rfl) (by kernel_rfl) (fun _ _ _ h => h) (Or.inr ⟨by rfl, rfl⟩) (by assumption) ?_
        try simp only [Act.put, List.getElem_toArray, List.getElem_cons_succ, List.getElem_cons_zero, List.setIfInBounds_toArray, List.set_cons_zero, List.set_cons_succ]
        refine wpAnyH_take (i := 25) (v := undef) rfl (by kernel_rfl) (by kernel_rfl) (by kernel_rfl) (fun _ _ _ h => h) (Or.inr ⟨by rfl, rfl⟩) (by assumption) ?_
        try simp only [Act.put, List.getElem_toArray, List.getElem_cons_succ, List.getElem_cons_zero, List.setIfInBounds_toArray, List.set_cons_zero, List.set_cons_succ]
        refine wpAnyH_take (i := 26) (v := undef) rfl (by kernel_rfl) (by kernel_rfl) (by kernel_rfl) (fun _ _ _ h => h) (Or.inr ⟨by rfl, rfl⟩) (by assumption) ?_
        try simp only [Act.put, List.getElem_toArray, List.getElem_cons_succ, List.getElem_cons_zero, List.setIfInBounds_toArray, List.set_cons_zero, List.set_cons_succ]
        refine wpAnyH_take (i := 27) (v := undef) rfl (by kernel_rfl) (by kernel_rfl) (by kernel_rfl) (fun _ _ _ h => h) (Or.inr ⟨by rfl, rfl⟩) (by assumption) ?_
        try simp only [Act.put, List.getElem_toArray, List.getElem_cons_succ, List.getElem_cons_zero, List.setIfInBounds_toArray, List.set_cons_zero, List.set_cons_succ]
        refine wpAnyH_take (i := 28) (v := undef) rfl (by kernel_rfl) (by kernel_rfl) (by kernel_rfl) (fun _ _ _ h => h) (Or.inr ⟨by rfl, rfl⟩) (by assumption) ?_
        try simp only [Act.put, List.getElem_toArray, List.getElem_cons_succ, List.getElem_cons_zero, List.setIfInBounds_toArray, List.set_cons_zero, List.set_cons_succ]
        refine wpAnyH_take (i := 29) (v := undef) rfl (by kernel_rfl) (by kernel_rfl) (by kernel_rfl) (fun _ _ _ h => h) (Or.inr ⟨by rfl, rfl⟩) (by assumption) ?_
        try simp only [Act.put, List.getElem_toArray, List.getElem_cons_succ, List.getElem_cons_zero, List.setIfInBounds_toArray, List.set_cons_zero, List.set_cons_succ]
        refine wpAnyH_take (i := 30) (v := undef) rfl (by kernel_rfl) (by kernel_rfl) (by kernel_rfl) (fun _ _ _ h => h) (Or.inr ⟨by rfl, rfl⟩) (by assumption) ?_
        try simp only [Act.put, List.getElem_toArray, List.getElem_cons_succ, List.getElem_cons_zero, List.setIfInBounds_toArray, List.set_cons_zero, List.set_cons_succ]
        refine wpAnyH_take (i := 31) (v := undef) rfl (by kernel_rfl) (by kernel_rfl) (by kernel_rfl) (fun _ _ _ h => h) (Or.inr ⟨by rfl, rfl⟩) (by assumption) ?_
        try simp only [Act.put, List.getElem_toArray, List.getElem_cons_succ, List.getElem_cons_zero, List.setIfInBounds_toArray, List.set_cons_zero, List.set_cons_succ]
        refine wpAnyH_take (i := 32) (v := undef) rfl (by kernel_rfl) (by kernel_rfl) (by kernel_rfl) (fun _ _ _ h => h) (Or.inr ⟨by rfl, rfl⟩) (by assumption) ?_
        try simp only [Act.put, List.getElem_toArray, List.getElem_cons_succ, List.getElem_cons_zero, List.setIfInBounds_toArray, List.set_cons_zero, List.set_cons_succ]
        refine wpAnyH_take (i := 33) (v := ?_) rfl (by kernel_rfl) (by kernel_rfl) (by kernel_rfl) (fun _ _ _ h => h) (Or.inl ⟨by rfl, ?_⟩) (by assumption) ?_
        rotate_left
        · intro w9 hSw; (try dsimp only at hSw); go_simp; (try with_reducible rfl)
        try simp only [Act.put, List.getElem_toArray, List.getElem_cons_succ, List.getElem_cons_zero, List.setIfInBounds_toArray, List.set_cons_zero, List.set_cons_succ]
        refine wpAnyH_done (by kernel_rfl) ?_ _
        have hbf : Below w.heap.size w w2 := below_app hbra hHeld.2 hbra.size
        have hbv2 : Below v.heap.size v w2 := below_app (below_on hbwa hb) hHeld.2 (below_on hbwa hb).size
        go_wp2
        go_ret
        exact ⟨ret_bool F.out.symm, hbf⟩
      | true =>
        have HPB := Lib.hid hp
        by_cases hk0 : 0 < k
        · obtain ⟨A2, n2, c2, y, hy, p9, hy3⟩ := HPREV.out hk0
          have HYS : Hid (strokeB y = true) := inkAt_stroke hall.out (show k - 1 < k by omega) hy
          have hxl := strokeB_len hp
          have hyl := strokeB_len HYS.out
          have hxe := HX.out.len
          have hye := hy3.len
          obtain ⟨px, hpx⟩ : ∃ px, x[0]? = some px := ⟨_, List.getElem?_eq_getElem (show 0 < x.length by omega)⟩
          obtain ⟨py, hpy⟩ : ∃ py, y[n2 - 1]? = some py := ⟨_, List.getElem?_eq_getElem (show n2 - 1 < y.length by omega)⟩
          have hT1 : headT x = px.2.2 := by unfold headT; rw [getD_of hpx]
          have hT2 : lastT y = py.2.2 := by unfold lastT; rw [hye, getD_of hpy]
          have HQ := Lib.hid hy
          have HH := Lib.hid hpx
          have HL := Lib.hid hpy
          have HY := Lib.hid (hy3.on hbwa)
          have HD := Lib.hid (show Cel wr b (off + (k - 1)) (.slice A2 n2 c2) from ⟨hbl, p9⟩)
          obtain ⟨bx, ox, x1, y1, t1, rfl, hblx, hx1, r0, r1, r2⟩ := HX.out.at3 (show 0 < n' by omega)
          have hpe : px = (x1, y1, t1) := by have h := HH.out; rw [hx1.out] at h; exact (Option.some.inj h).symm
          subst hpe
          simp only [Nat.zero_mul, Nat.add_zero] at r0 r1 r2
          have i6 : (0 : Int) < (n' : Int) := by omega
          have i7 : 0 < n' := by omega
          clear r0 r1 hx1
          clear hy hpx hpy hy3 HPREV
          have hk0' : (0 : Int) < (k : Int) := by omega
          have o1 : IntKind.i64.wrap ((k : Int) - 1) = (k : Int) - 1 := IntWalk.i64_in _ (by omega)
          have o2 : (0 : Int) ≤ (k : Int) - 1 := by omega
          have o5 : (1 : Int) ≤ (k : Int) := by omega
          have o3 : (k : Int) - 1 < (n : Int) := by omega
          have o4 : ((k : Int) - 1).toNat = k - 1 := by omega
          clear hxl hyl hxe hye
          by_cases ht : t1 ≤ py.2.2
          · have ht2 := Lib.hid (show headT x ≤ lastT y by rw [hT1, hT2]; exact ht)
            clear hT1 hT2
            have F : Hid (inkB xs = false) := inkB_fail hl.out hlt (inkAt_late hx.out HQ.out hk0 ht2.out)
            go_wp2_with fail
            go_region_held3 (fun w' => (∀ b o, b < wr.heap.size → w'.cell? ⟨b, o, none⟩ = wr.cell? ⟨b, o, none⟩) ∧ Below wr.heap.size wr w') (first | exact sk (Below.refl _ _).drew | (go_split_ands; (first | (exact sk (below_app ‹_› hbw3 (Below.size ‹_›))) | (exact sk (below_app ‹_› hbw2 (Below.size ‹_›)))))) (first | (go_at_call 55; with_reducible refine (l02Stroke_ptr _ _ _ x _ _ _ (HC.out.on (Below.refl wr.heap.size wr).drew) (HX.out.on (Below.refl wr.heap.size wr).drew) hxn).mono ?_; rw [HPB.out]; rintro e w2 ⟨rfl, hbw2⟩) | (go_at_call 56; with_reducible refine (l02Last_any _ _ _ y _ _ _ _ (HD.out.on (below_on hbw2 (Below.refl wr.heap.size wr).drew)) (HY.out.on (below_on hbw2 (Below.refl wr.heap.size wr).drew)) HL.out).mono ?_; rintro e w3 ⟨rfl, hbw3⟩))
            go_split_ands
            have hbf : Below w.heap.size w w3 := below_app hbra ‹Below wr.heap.size wr w3› hbra.size
            have hbv2 : Below v.heap.size v w3 := below_app (below_on hbwa hb) ‹Below wr.heap.size wr w3› (below_on hbwa hb).size
            go_wp2
            go_ret
            exact ⟨ret_bool F.out.symm, hbf⟩
          · have ht2 := Lib.hid (show lastT y < headT x by rw [hT1, hT2]; show py.2.2 < t1; omega)
            have ht' : py.2.2 < t1 := by omega
            clear hT1 hT2
            have F : Hid (inkAt xs k = true) := inkAt_good hx.out HQ.out HPB.out ht2.out
            go_wp2_with fail
            go_region_held3 (fun w' => (∀ b o, b < wr.heap.size → w'.cell? ⟨b, o, none⟩ = wr.cell? ⟨b, o, none⟩) ∧ Below wr.heap.size wr w') (first | exact sk (Below.refl _ _).drew | (go_split_ands; (first | (exact sk (below_app ‹_› hbw3 (Below.size ‹_›))) | (exact sk (below_app ‹_› hbw2 (Below.size ‹_›)))))) (first | (go_at_call 55; with_reducible refine (l02Stroke_ptr _ _ _ x _ _ _ (HC.out.on (Below.refl wr.heap.size wr).drew) (HX.out.on (Below.refl wr.heap.size wr).drew) hxn).mono ?_; rw [HPB.out]; rintro e w2 ⟨rfl, hbw2⟩) | (go_at_call 56; with_reducible refine (l02Last_any _ _ _ y _ _ _ _ (HD.out.on (below_on hbw2 (Below.refl wr.heap.size wr).drew)) (HY.out.on (below_on hbw2 (Below.refl wr.heap.size wr).drew)) HL.out).mono ?_; rintro e w3 ⟨rfl, hbw3⟩))
            go_split_ands
            have hbf : Below w.heap.size w w3 := below_app hbra ‹Below wr.heap.size wr w3› hbra.size
            have hbv2 : Below v.heap.size v w3 := below_app (below_on hbwa hb) ‹Below wr.heap.size wr w3› (below_on hbwa hb).size
            go_wp2
            exact ⟨⟨k + 1, by omega, by go_num, hbv2, rg_step hall.out F.out⟩, by simp [intOf]; omega⟩
        · have hk0' : ¬ (0 : Int) < (k : Int) := by omega
          have hk1 : (k : Int) ≤ 0 := by omega
          have F : Hid (inkAt xs k = true) := inkAt_zero hx.out hp (by omega)
          go_wp2_with fail
          refine wp_region_held_drew (S := (fun w' => (∀ b o, b < wr.heap.size → w'.cell? ⟨b, o, none⟩ = wr.cell? ⟨b, o, none⟩) ∧ Below wr.heap.size wr w')) (by kernel_rfl) ?_ (fun hHeld => ?_)
          · exact sk (Below.refl _ _).drew
          refine wpAnyH_take (i := 0) (v := ?_) rfl (by kernel_rfl) (by kernel_rfl) (by kernel_rfl) (fun _ _ _ h => h) (Or.inl ⟨by rfl, ?_⟩) (by assumption) ?_
          rotate_left
          · intro w9 hSw; (try dsimp only at hSw); go_simp; (try with_reducible rfl)
          try simp only [Act.put, List.getElem_toArray, List.getElem_cons_zero, List.setIfInBounds_toArray, List.set_cons_zero, List.set_cons_succ]
          refine wpAnyH_take (i := 1) (v := ?_) rfl (by kernel_rfl) (by kernel_rfl) (by kernel_rfl) (fun _ _ _ h => h) (Or.inl ⟨by rfl, ?_⟩) (by assumption) ?_
          rotate_left
          · intro w9 hSw; (try dsimp only at hSw); go_simp; (try with_reducible rfl)
          try simp only [Act.put, List.getElem_toArray, List.getElem_cons_succ, List.getElem_cons_zero, List.setIfInBounds_toArray, List.set_cons_zero, List.set_cons_succ]
          refine wpAnyH_take (i := 2) (v := ?_) rfl (by kernel_rfl) (by kernel_rfl) (by kernel_rfl) (fun _ _ _ h => h) (Or.inl ⟨by rfl, ?_⟩) (by assumption) ?_
          rotate_left
          · intro w9 hSw; (try dsimp only at hSw); go_simp; (try with_reducible rfl)
          try simp only [Act.put, List.getElem_toArray, List.getElem_cons_succ, List.getElem_cons_zero, List.setIfInBounds_toArray, List.set_cons_zero, List.set_cons_succ]
          refine wpAnyH_take (i := 3) (v := ?_) rfl (by kernel_rfl) (by kernel_rfl) (by kernel_rfl) (fun _ _ _ h => h) (Or.inl ⟨by rfl, ?_⟩) (by assumption) ?_
          rotate_left
          · intro w9 hSw; (try dsimp only at hSw); go_simp; (try with_reducible rfl)
          try simp only [Act.put, List.getElem_toArray, List.getElem_cons_succ, List.getElem_cons_zero, List.setIfInBounds_toArray, List.set_cons_zero, List.set_cons_succ]
          refine wpAnyH_take (i := 4) (v := ?_) rfl (by kernel_rfl) (by kernel_rfl) (by kernel_rfl) (fun _ _ _ h => h) (Or.inl ⟨by rfl, ?_⟩) (by assumption) ?_
          rotate_left
          · intro w9 hSw; (try dsimp only at hSw); go_simp; (try with_reducible rfl)
          try simp only [Act.put, List.getElem_toArray, List.getElem_cons_succ, List.getElem_cons_zero, List.setIfInBounds_toArray, List.set_cons_zero, List.set_cons_succ]
          refine wpAnyH_take (i := 5) (v := ?_) rfl (by kernel_rfl) (by kernel_rfl) (by kernel_rfl) (fun _ _ _ h => h) (Or.inl ⟨by rfl, ?_⟩) (by assumption) ?_
          rotate_left
          · intro w9 hSw; (try dsimp only at hSw); go_simp; (try with_reducible rfl)
          try simp only [Act.put, List.getElem_toArray, List.getElem_cons_succ, List.getElem_cons_zero, List.setIfInBounds_toArray, List.set_cons_zero, List.set_cons_succ]
          refine wpAnyH_ready (rs := [6]) (by kernel_rfl) (by simp) ?_
          refine AllReadyH.cons rfl (fun K hK => ?_) AllReadyH.nil
          go_simp
          (first | (go_at_call 55; with_reducible refine (l02Stroke_ptr _ _ _ x _ _ _ (HC.out.on (Below.refl wr.heap.size wr).drew) (HX.out.on (Below.refl wr.heap.size wr).drew) hxn).mono ?_; rw [HPB.out]; rintro e w2 ⟨rfl, hbw2⟩))
          go_wp2_with fail
          refine hK.out _ _ ?_ (fun hHeld => ?_)
          · exact sk (below_app hHeld.2 hbw2 (Below.size hHeld.2))
          clear hK K
          try simp only [Act.put, List.getElem_toArray, List.getElem_cons_succ, List.getElem_cons_zero, List.setIfInBounds_toArray, List.set_cons_zero, List.set_cons_succ]
          refine wpAnyH_take (i := 7) (v := ?_) rfl (by kernel_rfl) (by kernel_rfl) (by kernel_rfl) (fun _ _ _ h => h) (Or.inl ⟨by rfl, ?_⟩) (by assumption) ?_
          rotate_left
          · intro w9 hSw; (try dsimp only at hSw); go_simp; (try with_reducible rfl)
          try simp only [Act.put, List.getElem_toArray, List.getElem_cons_succ, List.getElem_cons_zero, List.setIfInBounds_toArray, List.set_cons_zero, List.set_cons_succ]
          refine wpAnyH_take (i := 8) (v := ?_) rfl (by kernel_rfl) (by kernel_rfl) (by kernel_rfl) (fun _ _ _ h => h) (Or.inl ⟨by rfl, ?_⟩) (by assumption) ?_
          rotate_left
          · intro w9 hSw; (try dsimp only at hSw); go_simp; (try with_reducible rfl)
          try simp only [Act.put, List.getElem_toArray, List.getElem_cons_succ, List.getElem_cons_zero, List.setIfInBounds_toArray, List.set_cons_zero, List.set_cons_succ]
          refine wpAnyH_take (i := 9) (v := ?_) rfl (by kernel_rfl) (by kernel_rfl) (by kernel_rfl) (fun _ _ _ h => h) (Or.inl ⟨by rfl, ?_⟩) (by assumption) ?_
          rotate_left
          · intro w9 hSw; (try dsimp only at hSw); go_simp; (try with_reducible rfl)
          try simp only [Act.put, List.getElem_toArray, List.getElem_cons_succ, List.getElem_cons_zero, List.setIfInBounds_toArray, List.set_cons_zero, List.set_cons_succ]
          refine wpAnyH_take (i := 10) (v := ?_) rfl (by kernel_rfl) (by kernel_rfl) (by kernel_rfl) (fun _ _ _ h => h) (Or.inl ⟨by rfl, ?_⟩) (by assumption) ?_
          rotate_left
          · intro w9 hSw; (try dsimp only at hSw); go_simp; (try with_reducible rfl)
          try simp only [Act.put, List.getElem_toArray, List.getElem_cons_succ, List.getElem_cons_zero, List.setIfInBounds_toArray, List.set_cons_zero, List.set_cons_succ]
          refine wpAnyH_take (i := 11) (v := ?_) rfl (by kernel_rfl) (by kernel_rfl) (by kernel_rfl) (fun _ _ _ h => h) (Or.inl ⟨by rfl, ?_⟩) (by assumption) ?_
          rotate_left
          · intro w9 hSw; (try dsimp only at hSw); go_simp; (try with_reducible rfl)
          try simp only [Act.put, List.getElem_toArray, List.getElem_cons_succ, List.getElem_cons_zero, List.setIfInBounds_toArray, List.set_cons_zero, List.set_cons_succ]
          refine wpAnyH_take (i := 12) (v := undef) rfl (by kernel_rfl) (by kernel_rfl) (by kernel_rfl) (fun _ _ _ h => h) (Or.inr ⟨by rfl, rfl⟩) (by assumption) ?_
          try simp only [Act.put, List.getElem_toArray, List.getElem_cons_succ, List.getElem_cons_zero, List.setIfInBounds_toArray, List.set_cons_zero, List.set_cons_succ]
          refine wpAnyH_take (i := 13) (v := undef) rfl (by kernel_rfl) (by kernel_rfl) (by kernel_rfl) (fun _ _ _ h => h) (Or.inr ⟨by rfl, rfl⟩) (by assumption) ?_
          try simp only [Act.put, List.getElem_toArray, List.getElem_cons_succ, List.getElem_cons_zero, List.setIfInBounds_toArray, List.set_cons_zero, List.set_cons_succ]
          refine wpAnyH_take (i := 14) (v := undef) rfl (by kernel_rfl) (by kernel_rfl) (by kernel_rfl) (fun _ _ _ h => h) (Or.inr ⟨by rfl, rfl⟩) (by assumption) ?_
          try simp only [Act.put, List.getElem_toArray, List.getElem_cons_succ, List.getElem_cons_zero, List.setIfInBounds_toArray, List.set_cons_zero, List.set_cons_succ]
          refine wpAnyH_take (i := 15) (v := undef) rfl (by kernel_rfl) (by kernel_rfl) (by kernel_rfl) (fun _ _ _ h => h) (Or.inr ⟨by rfl, rfl⟩) (by assumption) ?_
          try simp only [Act.put, List.getElem_toArray, List.getElem_cons_succ, List.getElem_cons_zero, List.setIfInBounds_toArray, List.set_cons_zero, List.set_cons_succ]
          refine wpAnyH_take (i := 16) (v := undef) rfl (by kernel_rfl) (by kernel_rfl) (by kernel_rfl) (fun _ _ _ h => h) (Or.inr ⟨by rfl, rfl⟩) (by assumption) ?_
          try simp only [Act.put, List.getElem_toArray, List.getElem_cons_succ, List.getElem_cons_zero, List.setIfInBounds_toArray, List.set_cons_zero, List.set_cons_succ]
          refine wpAnyH_take (i := 17) (v := undef) rfl (by kernel_rfl) (by kernel_rfl) (by kernel_rfl) (fun _ _ _ h => h) (Or.inr ⟨by rfl, rfl⟩) (by assumption) ?_
          try simp only [Act.put, List.getElem_toArray, List.getElem_cons_succ, List.getElem_cons_zero, List.setIfInBounds_toArray, List.set_cons_zero, List.set_cons_succ]
          refine wpAnyH_take (i := 18) (v := undef) rfl (by kernel_rfl) (by kernel_rfl) (by kernel_rfl) (fun _ _ _ h => h) (Or.inr ⟨by rfl, rfl⟩) (by assumption) ?_
          try simp only [Act.put, List.getElem_toArray, List.getElem_cons_succ, List.getElem_cons_zero, List.setIfInBounds_toArray, List.set_cons_zero, List.set_cons_succ]
          refine wpAnyH_take (i := 19) (v := undef) rfl (by kernel_rfl) (by kernel_rfl) (by kernel_rfl) (fun _ _ _ h => h) (Or.inr ⟨by rfl, rfl⟩) (by assumption) ?_
          try simp only [Act.put, List.getElem_toArray, List.getElem_cons_succ, List.getElem_cons_zero, List.setIfInBounds_toArray, List.set_cons_zero, List.set_cons_succ]
          refine wpAnyH_take (i := 20) (v := undef) rfl (by kernel_rfl) (by kernel_rfl) (by kernel_rfl) (fun _ _ _ h => h) (Or.inr ⟨by rfl, rfl⟩) (by assumption) ?_
          try simp only [Act.put, List.getElem_toArray, List.getElem_cons_succ, List.getElem_cons_zero, List.setIfInBounds_toArray, List.set_cons_zero, List.set_cons_succ]
          refine wpAnyH_take (i := 21) (v := undef) rfl (by kernel_rfl) (by kernel_rfl) (by kernel_rfl) (fun _ _ _ h => h) (Or.inr ⟨by rfl, rfl⟩) (by assumption) ?_
          try simp only [Act.put, List.getElem_toArray, List.getElem_cons_succ, List.getElem_cons_zero, List.setIfInBounds_toArray, List.set_cons_zero, List.set_cons_succ]
          refine wpAnyH_take (i := 22) (v := undef) rfl (by kernel_rfl) (by kernel_rfl) (by kernel_rfl) (fun _ _ _ h => h) (Or.inr ⟨by rfl, rfl⟩) (by assumption) ?_
          try simp only [Act.put, List.getElem_toArray, List.getElem_cons_succ, List.getElem_cons_zero, List.setIfInBounds_toArray, List.set_cons_zero, List.set_cons_succ]
          refine wpAnyH_take (i := 23) (v := undef) rfl (by kernel_rfl) (by kernel_rfl) (by kernel_rfl) (fun _ _ _ h => h) (Or.inr ⟨by rfl, rfl⟩) (by assumption) ?_
          try simp only [Act.put, List.getElem_toArray, List.getElem_cons_succ, List.getElem_cons_zero, List.setIfInBounds_toArray, List.set_cons_zero, List.set_cons_succ]
          refine wpAnyH_take (i := 24) (v := undef) rfl (by kernel_rfl) (by kernel_rfl) (by kernel_rfl) (fun _ _ _ h => h) (Or.inr ⟨by rfl, rfl⟩) (by assumption) ?_
          try simp only [Act.put, List.getElem_toArray, List.getElem_cons_succ, List.getElem_cons_zero, List.setIfInBounds_toArray, List.set_cons_zero, List.set_cons_succ]
          refine wpAnyH_take (i := 25) (v := undef) rfl (by kernel_rfl) (by kernel_rfl) (by kernel_rfl) (fun _ _ _ h => h) (Or.inr ⟨by rfl, rfl⟩) (by assumption) ?_
          try simp only [Act.put, List.getElem_toArray, List.getElem_cons_succ, List.getElem_cons_zero, List.setIfInBounds_toArray, List.set_cons_zero, List.set_cons_succ]
          refine wpAnyH_take (i := 26) (v := undef) rfl (by kernel_rfl) (by kernel_rfl) (by kernel_rfl) (fun _ _ _ h => h) (Or.inr ⟨by rfl, rfl⟩) (by assumption) ?_
          try simp only [Act.put, List.getElem_toArray, List.getElem_cons_succ, List.getElem_cons_zero, List.setIfInBounds_toArray, List.set_cons_zero, List.set_cons_succ]
          refine wpAnyH_take (i := 27) (v := undef) rfl (by kernel_rfl) (by kernel_rfl) (by kernel_rfl) (fun _ _ _ h => h) (Or.inr ⟨by rfl, rfl⟩) (by assumption) ?_
          try simp only [Act.put, List.getElem_toArray, List.getElem_cons_succ, List.getElem_cons_zero, List.setIfInBounds_toArray, List.set_cons_zero, List.set_cons_succ]
          refine wpAnyH_take (i := 28) (v := undef) rfl (by kernel_rfl) (by kernel_rfl) (by kernel_rfl) (fun _ _ _ h => h) (Or.inr ⟨by rfl, rfl⟩) (by assumption) ?_
          try simp only [Act.put, List.getElem_toArray, List.getElem_cons_succ, List.getElem_cons_zero, List.setIfInBounds_toArray, List.set_cons_zero, List.set_cons_succ]
          refine wpAnyH_take (i := 29) (v := undef) rfl (by kernel_rfl) (by kernel_rfl) (by kernel_rfl) (fun _ _ _ h => h) (Or.inr ⟨by rfl, rfl⟩) (by assumption) ?_
          try simp only [Act.put, List.getElem_toArray, List.getElem_cons_succ, List.getElem_cons_zero, List.setIfInBounds_toArray, List.set_cons_zero, List.set_cons_succ]
          refine wpAnyH_take (i := 30) (v := undef) rfl (by kernel_rfl) (by kernel_rfl) (by kernel_rfl) (fun _ _ _ h => h) (Or.inr ⟨by rfl, rfl⟩) (by assumption) ?_
          try simp only [Act.put, List.getElem_toArray, List.getElem_cons_succ, List.getElem_cons_zero, List.setIfInBounds_toArray, List.set_cons_zero, List.set_cons_succ]
          refine wpAnyH_take (i := 31) (v := undef) rfl (by kernel_rfl) (by kernel_rfl) (by kernel_rfl) (fun _ _ _ h => h) (Or.inr ⟨by rfl, rfl⟩) (by assumption) ?_
          try simp only [Act.put, List.getElem_toArray, List.getElem_cons_succ, List.getElem_cons_zero, List.setIfInBounds_toArray, List.set_cons_zero, List.set_cons_succ]
          refine wpAnyH_take (i := 32) (v := ?_) rfl (by kernel_rfl) (by kernel_rfl) (by kernel_rfl) (fun _ _ _ h => h) (Or.inl ⟨by rfl, ?_⟩) (by assumption) ?_
          rotate_left
          · intro w9 hSw; (try dsimp only at hSw); go_simp; (try with_reducible rfl)
          try simp only [Act.put, List.getElem_toArray, List.getElem_cons_succ, List.getElem_cons_zero, List.setIfInBounds_toArray, List.set_cons_zero, List.set_cons_succ]
          refine wpAnyH_take (i := 33) (v := ?_) rfl (by kernel_rfl) (by kernel_rfl) (by kernel_rfl) (fun _ _ _ h => h) (Or.inl ⟨by rfl, ?_⟩) (by assumption) ?_
          rotate_left
          · intro w9 hSw; (try dsimp only at hSw); go_simp; (try with_reducible rfl)
          try simp only [Act.put, List.getElem_toArray, List.getElem_cons_succ, List.getElem_cons_zero, List.setIfInBounds_toArray, List.set_cons_zero, List.set_cons_succ]
          refine wpAnyH_done (by kernel_rfl) ?_ _
          have hbf : Below w.heap.size w w2 := below_app hbra hHeld.2 hbra.size
          have hbv2 : Below v.heap.size v w2 := below_app (below_on hbwa hb) hHeld.2 (below_on hbwa hb).size
          go_wp2
          exact ⟨⟨k + 1, by omega, by go_num, hbv2, rg_step hall.out F.out⟩, by simp [intOf]; omega⟩
    · have hkn : k = n := by omega
      subst hkn
      clear hr K1
      have F : Hid (inkB xs = decide (k ≤ 16)) := inkB_end hl.out hall.out
      by_cases h16 : k ≤ 16
      · have F2 : Hid (inkB xs = true) := by show _ = _; rw [F.out, decide_eq_true h16]
        have i9 : (k : Int) ≤ 16 := by omega
        go_wp2
        go_ret
        exact ⟨ret_bool F2.out.symm, hbr⟩
      · have F2 : Hid (inkB xs = false) := by show _ = _; rw [F.out, decide_eq_false h16]
        have i9 : ¬ (k : Int) ≤ 16 := by omega
        go_wp2
        go_ret
        exact ⟨ret_bool F2.out.symm, hbr⟩
end Go.Proofs.Ytbfilhpgekgmbaa
