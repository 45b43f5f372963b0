/- ThinStroke. -/
import Derived.Test.YtpmaiklooapnfaaIk
import Derived.Deep.AppendLies
import Derived.Deep.RegionLaw
namespace Go.Proofs.Ytpmaiklooapnfaa
open Go.ChangeShapes Go.WideShapes Go.ChangeAt Go.RowKit
def thK (xs : List T3) (step : Int) (l : List T3) (k : Nat) : Bool := decide (k = 0) || (decide (k + 1 = xs.length) || decide (step * 16 ≤ lenD (l.getD (l.length - 1) (0, 0, 0)) (xs.getD k (0, 0, 0))))
def thN (xs : List T3) (step : Int) : Nat → List T3
  | 0 => []
  | k + 1 => if thK xs step (thN xs step k) k = true then thN xs step k ++ [xs.getD k (0, 0, 0)] else thN xs step k
theorem thN_yes {xs : List T3} {step : Int} {k : Nat} {x : T3} {l : List T3} (hl : thN xs step k = l) (hx : xs[k]? = some x) (h : thK xs step l k = true) : thN xs step (k + 1) = l ++ [x] := by
  subst hl; rw [thN, if_pos h, getD_of hx]
theorem thN_no {xs : List T3} {step : Int} {k : Nat} {l : List T3} (hl : thN xs step k = l) (h : thK xs step l k = false) : thN xs step (k + 1) = l := by
  subst hl; rw [thN, if_neg (by rw [h]; decide)]
theorem thK_zero {xs : List T3} {step : Int} {l : List T3} : thK xs step l 0 = true := rfl
theorem thK_last {xs : List T3} {step : Int} {l : List T3} {k : Nat} (h : k + 1 = xs.length) : thK xs step l k = true := by unfold thK; rw [decide_eq_true h]; simp
theorem thK_mid {xs : List T3} {step : Int} {l : List T3} {k m : Nat} {p q : T3} (h0 : k ≠ 0) (h1 : k + 1 ≠ xs.length) (hm : l.length = m) (hp : l[m - 1]? = some p) (hq : xs[k]? = some q) : thK xs step l k = decide (step * 16 ≤ lenD p q) := by
  unfold thK; rw [decide_eq_false h0, decide_eq_false h1, Bool.false_or, Bool.false_or, hm, getD_of hp, getD_of hq]
theorem thN_len (xs : List T3) (step : Int) : ∀ k, (thN xs step k).length ≤ k ∧ (1 ≤ k → 1 ≤ (thN xs step k).length)
  | 0 => ⟨by simp [thN], by omega⟩
  | k + 1 => by
    obtain ⟨h1, h2⟩ := thN_len xs step k
    rw [thN]
    split
    · rw [List.length_append, List.length_singleton]; omega
    · rename_i h
      by_cases hk : k = 0
      · subst hk; exact absurd thK_zero h
      · exact ⟨by omega, fun _ => h2 (by omega)⟩
theorem thN_mem {xs : List T3} {step : Int} : ∀ {k : Nat}, k ≤ xs.length → ∀ p ∈ thN xs step k, p ∈ xs
  | 0, _, p, hp => by simp [thN] at hp
  | k + 1, hk, p, hp => by
    have hx : xs[k]? = some (xs[k]'(by omega)) := List.getElem?_eq_getElem (by omega)
    rw [thN] at hp
    split at hp
    · rcases List.mem_append.1 hp with h | h
      · exact thN_mem (by omega) p h
      · rw [getD_of hx] at h
        simp only [List.mem_singleton] at h
        subst h
        exact List.mem_of_getElem? hx
    · exact thN_mem (by omega) p hp
theorem strokeB_mem {xs : List T3} (h : strokeB xs = true) {p : T3} (hp : p ∈ xs) : ptOk p = true := by
  obtain ⟨k, hk, rfl⟩ := List.mem_iff_getElem.1 hp
  exact strokeB_at h (List.getElem?_eq_getElem hk)
def thE (xs : List T3) (step : Int) : Int := if strokeB xs = true then (if inB 0 1000 step = true then 0 else 2) else 1
def thL (xs : List T3) (step : Int) : List T3 := if (strokeB xs && inB 0 1000 step) = true then thN xs step xs.length else []
theorem th_bad {xs : List T3} {m : Int} (h : strokeB xs = false) : thL xs m = [] ∧ thE xs m = 1 := by unfold thL thE; rw [h]; exact ⟨rfl, rfl⟩
theorem th_far {xs : List T3} {m : Int} (h : strokeB xs = true) (h2 : inB 0 1000 m = false) : thL xs m = [] ∧ thE xs m = 2 := by unfold thL thE; rw [h, h2]; exact ⟨rfl, rfl⟩
theorem th_ok {xs : List T3} {m : Int} (h : strokeB xs = true) (h2 : inB 0 1000 m = true) : thL xs m = thN xs m xs.length ∧ thE xs m = 0 := by unfold thL thE; rw [h, h2]; exact ⟨rfl, rfl⟩
theorem Blk.set1 {w : World} {g : Nat} {t : TypeId} {a : Value} (h : Blk w g t #[a]) (u : Value) : Blk (w.setCell ⟨g, 0, none⟩ u) g t #[u] := by have h9 := h.set_ 0 u; simpa using h9
theorem hdr_keep {wz w5 : World} {g6 g m c' : Nat} {T : TypeId} {v : Value} {o : Obj} (HO : Blk wz g6 T #[v]) (h3 : (wz.alloc o).drew.grownBy w5 (Value.slice (some ⟨g, 0, none⟩) m c').ownBlock) (hne : g ≠ g6) :
    Blk w5 g6 T #[v] ∧ w5.cell? ⟨g6, 0, none⟩ = some v ∧ w5.frozen? ⟨g6, 0, none⟩ = false ∧ g6 < w5.heap.size := by
  have O5 : Blk w5 g6 T #[v] := (HO.alloc o).drew.kept h3 (fun q hq => by simp [Value.ownBlock] at hq; omega)
  exact ⟨O5, O5.cel.cell, O5.frozen 0, O5.lt⟩
theorem news3' {w : World} {g : Nat} {x y d : Int} (h : Cell3 w g x y d) : ∀ j u, (c3 (x, y, d))[j]? = some u → w.cell? ((⟨g, 0, none⟩ : Addr).add j) = some u := fun j u hu => by
  have h9 := news3 h j u hu
  unfold Addr.add
  split
  · rename_i h0; subst h0; exact h9
  · simpa using h9
set_option maxRecDepth 100000 in
set_option maxHeartbeats 16000000 in
theorem iThin_any (A : Option Addr) (n c : Nat) (xs : List T3) (step : Int) (w : World) (hr : RdL c3 3 w w.heap.size A n c xs) (hn : n ≤ 1048576) :
    Calls Try.prog 22 #[.agg #[.slice A n c], .int .i64 step] w fun e w' => ∃ A' n' c', e = .returned (.tuple #[.agg #[.slice A' n' c'], .int .i64 (thE xs step)]) ∧ w'.ownsRow w.heap.size 77 3 (.slice A' n' c') n' ((thL xs step).flatMap c3) ∧
      (thL xs step).length = n' ∧ n' ≤ 1048576 ∧ Below w.heap.size w w' := by
  obtain ⟨i0, hi, hz0, hz1, hz2⟩ := info_parts Try.infoPoint
  have hl := Lib.hid hr.len
  have K0 : Blk ((w.alloc (.cells #[.slice A n c] 28)).alloc (.cells #[.slice none 0 0] 28)) w.heap.size 28 #[.slice A n c] := (Blk.new _ _ _).alloc _
  have R0 : Blk ((w.alloc (.cells #[.slice A n c] 28)).alloc (.cells #[.slice none 0 0] 28)) (w.heap.size + 1) 28 #[.slice none 0 0] := by have h := Blk.new (w.alloc (.cells #[.slice A n c] 28)) 28 #[.slice none 0 0]; simpa using h
  have hB : Below w.heap.size w ((w.alloc (.cells #[.slice A n c] 28)).alloc (.cells #[.slice none 0 0] 28)) := (by repeat (first | exact Below.refl _ _ | assumption | refine Below.drew ?_ | refine below_drewN ?_ _ | refine Below.alloc ?_ (by first | omega | (simp <;> omega)) _ | refine Below.setCell ?_ (by first | omega | (simp <;> omega)) _))
  go_enter Try.func22, Try.ntmps22
  go_wp2_with fail
  generalize (w.alloc (.cells #[.slice A n c] 28)).alloc (.cells #[.slice none 0 0] 28) = v at *
  replace hr := hr.on hB
  have e0 := K0.cell 0
  simp only [List.getElem?_toArray, List.getElem?_cons_zero] at e0
  go_wp2_with fail
  with_reducible refine (iValidStroke_any _ _ _ xs _ hr hn).mono ?_
  rintro e w1 ⟨rfl, hbw1⟩
  clear e0
  replace R0 := R0.on hbw1
  replace K0 := K0.on hbw1
  replace hB := below_on hbw1 hB
  replace hr := hr.on hbw1
  clear hbw1
  cases hok : strokeB xs with
  | false =>
    have F := th_bad (m := step) hok
    clear hr
    obtain ⟨j0, f0, zr⟩ : w1.cell? ⟨w.heap.size + 1, 0, none⟩ = some (.slice none 0 0) ∧ w1.frozen? ⟨w.heap.size + 1, 0, none⟩ = false ∧ w.heap.size + 1 < w1.heap.size := ⟨R0.cel.cell, R0.frozen 0, R0.lt⟩
    go_wp2
    rw [F.1, F.2]
    exact bodyPost_ret (v := .tuple #[.agg #[.slice none 0 0], .int .i64 1]) (by simp [results, Try.results22, go_sem, j0]) rfl ⟨none, 0, 0, rfl, World.ownsRow_nil _ _ _ _, rfl, by decide, (by repeat (first | exact Below.refl _ _ | assumption | refine Below.drew ?_ | refine below_drewN ?_ _ | refine Below.alloc ?_ (by first | omega | (simp <;> omega)) _ | refine Below.setCell ?_ (by first | omega | (simp <;> omega)) _))⟩
  | true =>
    have Hok := Lib.hid hok
    have hle := strokeB_len hok
    rw [hl.out] at hle
    cases hp : inB 0 1000 step with
    | false =>
      have F := th_far hok hp
      clear hr
      obtain ⟨j0, f0, zr⟩ : w1.cell? ⟨w.heap.size + 1, 0, none⟩ = some (.slice none 0 0) ∧ w1.frozen? ⟨w.heap.size + 1, 0, none⟩ = false ∧ w.heap.size + 1 < w1.heap.size := ⟨R0.cel.cell, R0.frozen 0, R0.lt⟩
      go_wp2_with (first | (go_at_call 66; with_reducible refine (within_any _ _ _ _).mono ?_; rintro e w' ⟨rfl, rfl⟩))
      rw [F.1, F.2]
      exact bodyPost_ret (v := .tuple #[.agg #[.slice none 0 0], .int .i64 2]) (by simp [results, Try.results22, go_sem, j0]) rfl ⟨none, 0, 0, rfl, World.ownsRow_nil _ _ _ _, rfl, by decide, (by repeat (first | exact Below.refl _ _ | assumption | refine Below.drew ?_ | refine below_drewN ?_ _ | refine Below.alloc ?_ (by first | omega | (simp <;> omega)) _ | refine Below.setCell ?_ (by first | omega | (simp <;> omega)) _))⟩
    | true =>
      have F := Lib.hid (th_ok hok hp)
      obtain ⟨g1, g2⟩ := inB_iff.1 hp
      have HR := Lib.hid hr
      have s16 : IntKind.i64.wrap (step * 16) = step * 16 := IntWalk.i64_in _ (by omega)
      have e0 := K0.cell 0
      simp only [List.getElem?_toArray, List.getElem?_cons_zero] at e0
      have zk := K0.lt
      have RZ := R0.lt
      clear hr hok
      go_wp2_with (first | (go_at_call 66; with_reducible refine (within_any _ _ _ _).mono ?_; rintro e w' ⟨rfl, rfl⟩))
      clear hp e0
      have O0 := Blk.new w1 28 #[.slice none 0 0]
      go_loopw [20] (fun i wr => ∃ (k m c' : Nat) (A' : Option Addr), k ≤ n ∧ i = .int .i64 k ∧ Below w1.heap.size w1 wr ∧ Blk wr w1.heap.size 28 #[.slice A' m c'] ∧ wr.ownsRow (w1.heap.size + 1) 77 3 (.slice A' m c') m ((thN xs step k).flatMap c3) ∧ Hid ((thN xs step k).length = m)) (fun i _ => n - (intOf i).toNat)
      case atStart => exact ⟨0, 0, 0, none, by omega, rfl, (Below.refl _ _).alloc (Nat.le_refl _) _, O0, World.ownsRow_nil _ _ _ _, rfl⟩
      case round =>
        clear O0
        obtain ⟨k, m, c', A', hk, rfl, hb, O1, hw, hm⟩ := hrel
        have K1 := K0.on hb
        have hbr := below_on hb hB
        have e0 := K1.cell 0
        simp only [List.getElem?_toArray, List.getElem?_cons_zero] at e0
        have zo := O1.lt
        have hsz := hb.size
        obtain ⟨L, hL⟩ : ∃ L, thN xs step k = L := ⟨_, rfl⟩
        have hmk := (thN_len xs step k)
        rw [hm.out] at hmk
        obtain ⟨hm1, hm2⟩ := hmk
        rw [hL] at hw hm
        have HL := Lib.hid hL
        by_cases hlt : k < n
        · obtain ⟨b, off, x, y, t, rfl, hbl, hx, q0, q1, q2⟩ := (HR.out.below hb).at3 hlt
          replace hbl : b < wr.heap.size := by omega
          have i1 : (k : Int) < (n : Int) := by omega
          have i2 : (0 : Int) ≤ (k : Int) := by omega
          have zk2 : w.heap.size < wr.heap.size := by omega
          have i3 : IntKind.i64.wrap ((n : Int) - 1) = (n : Int) - 1 := IntWalk.i64_in _ (by omega)
          have VX := Lib.hid (strokeB_at Hok.out hx.out)
          have HW := Lib.hid hw
          have HM := Lib.hid hm.out
          clear hw hm hL
          go_wp2_with fail
          have P0 := Blk.new (wr) 77 #[.int .i64 x, .int .i64 y, .int .i64 t]
          have hbwa : Below (wr).heap.size (wr) ((wr).alloc (.cells #[.int .i64 x, .int .i64 y, .int .i64 t] 77)) := (Below.refl _ _).alloc (Nat.le_refl _) _
          generalize (wr).alloc (.cells #[.int .i64 x, .int .i64 y, .int .i64 t] 77) = wa at *
          replace e0 := cell_on2 hbwa e0
          replace O1 := O1.on hbwa
          replace HW := Lib.hid (own_below HW.out hbwa)
          replace hb := below_on hbwa hb
          clear q0 q1 q2 K1
          have p0 := P0.cell 0
          have p1 := P0.cell 1
          have p2 := P0.cell 2
          simp only [List.getElem?_toArray, List.getElem?_cons_succ, List.getElem?_cons_zero] at p0 p1 p2
          have u0 := O1.cell 0
          simp only [List.getElem?_toArray, List.getElem?_cons_zero] at u0
          have zp := P0.lt
          have zo := O1.lt
          have zk2 : w.heap.size < wa.heap.size := by have := hbwa.size; omega
          clear hbwa
          by_cases hk0 : k = 0
          · have z1 : ((k : Int) == 0) = true := by simp; omega
            go_wp2_with fail
            refine wp_region_held_drew (S := (fun w' => (∀ b o, b < wa.heap.size → w'.cell? ⟨b, o, none⟩ = wa.cell? ⟨b, o, none⟩) ∧ Below wa.heap.size wa w')) (by kernel_rfl) ?_ (fun hHeld => ?_)
            · exact sk (Below.refl _ _).drew
            refine wpAnyH_take (i := 0) (v := ?_) rfl (by kernel_rfl) (by kernel_rfl) (by kernel_rfl) (fun _ _ _ h => h) (Or.inl ⟨by rfl, ?_⟩) (by assumption) ?_
            rotate_left
            · intro w9 hSw; (try dsimp only at hSw); go_simp; (try with_reducible rfl)
            try simp only [Act.put, List.getElem_toArray, List.getElem_cons_zero, List.setIfInBounds_toArray, List.set_cons_zero, List.set_cons_succ]
            refine wpAnyH_take (i := 1) (v := ?_) rfl (by kernel_rfl) (by kernel_rfl) (by kernel_rfl) (fun _ _ _ h => h) (Or.inl ⟨by rfl, ?_⟩) (by assumption) ?_
            rotate_left
            · intro w9 hSw; (try dsimp only at hSw); go_simp; (try with_reducible rfl)
            try simp only [Act.put, List.getElem_toArray, List.getElem_cons_succ, List.getElem_cons_zero, List.setIfInBounds_toArray, List.set_cons_zero, List.set_cons_succ]
            refine wpAnyH_take (i := 2) (v := ?_) rfl (by kernel_rfl) (by kernel_rfl) (by kernel_rfl) (fun _ _ _ h => h) (Or.inl ⟨by rfl, ?_⟩) (by assumption) ?_
            rotate_left
            · intro w9 hSw; (try dsimp only at hSw); go_simp; (try with_reducible rfl)
            try simp only [Act.put, List.getElem_toArray, List.getElem_cons_succ, List.getElem_cons_zero, List.setIfInBounds_toArray, List.set_cons_zero, List.set_cons_succ]
            refine wpAnyH_take (i := 3) (v := undef) rfl (by kernel_rfl) (by kernel_rfl) (by kernel_rfl) (fun _ _ _ h => h) (Or.inr ⟨by rfl, rfl⟩) (by assumption) ?_
            try simp only [Act.put, List.getElem_toArray, List.getElem_cons_succ, List.getElem_cons_zero, List.setIfInBounds_toArray, List.set_cons_zero, List.set_cons_succ]
            refine wpAnyH_take (i := 4) (v := undef) rfl (by kernel_rfl) (by kernel_rfl) (by kernel_rfl) (fun _ _ _ h => h) (Or.inr ⟨by rfl, rfl⟩) (by assumption) ?_
            try simp only [Act.put, List.getElem_toArray, List.getElem_cons_succ, List.getElem_cons_zero, List.setIfInBounds_toArray, List.set_cons_zero, List.set_cons_succ]
            refine wpAnyH_take (i := 5) (v := undef) rfl (by kernel_rfl) (by kernel_rfl) (by kernel_rfl) (fun _ _ _ h => h) (Or.inr ⟨by rfl, rfl⟩) (by assumption) ?_
            try simp only [Act.put, List.getElem_toArray, List.getElem_cons_succ, List.getElem_cons_zero, List.setIfInBounds_toArray, List.set_cons_zero, List.set_cons_succ]
            refine wpAnyH_take (i := 6) (v := undef) rfl (by kernel_rfl) (by kernel_rfl) (by kernel_rfl) (fun _ _ _ h => h) (Or.inr ⟨by rfl, rfl⟩) (by assumption) ?_
            try simp only [Act.put, List.getElem_toArray, List.getElem_cons_succ, List.getElem_cons_zero, List.setIfInBounds_toArray, List.set_cons_zero, List.set_cons_succ]
            refine wpAnyH_take (i := 7) (v := undef) rfl (by kernel_rfl) (by kernel_rfl) (by kernel_rfl) (fun _ _ _ h => h) (Or.inr ⟨by rfl, rfl⟩) (by assumption) ?_
            try simp only [Act.put, List.getElem_toArray, List.getElem_cons_succ, List.getElem_cons_zero, List.setIfInBounds_toArray, List.set_cons_zero, List.set_cons_succ]
            refine wpAnyH_take (i := 8) (v := undef) rfl (by kernel_rfl) (by kernel_rfl) (by kernel_rfl) (fun _ _ _ h => h) (Or.inr ⟨by rfl, rfl⟩) (by assumption) ?_
            try simp only [Act.put, List.getElem_toArray, List.getElem_cons_succ, List.getElem_cons_zero, List.setIfInBounds_toArray, List.set_cons_zero, List.set_cons_succ]
            refine wpAnyH_take (i := 9) (v := ?_) rfl (by kernel_rfl) (by kernel_rfl) (by kernel_rfl) (fun _ _ _ h => h) (Or.inl ⟨by rfl, ?_⟩) (by assumption) ?_
            rotate_left
            · intro w9 hSw; (try dsimp only at hSw); go_simp; (try with_reducible rfl)
            try simp only [Act.put, List.getElem_toArray, List.getElem_cons_succ, List.getElem_cons_zero, List.setIfInBounds_toArray, List.set_cons_zero, List.set_cons_succ]
            refine wpAnyH_take (i := 10) (v := ?_) rfl (by kernel_rfl) (by kernel_rfl) (by kernel_rfl) (fun _ _ _ h => h) (Or.inl ⟨by rfl, ?_⟩) (by assumption) ?_
            rotate_left
            · intro w9 hSw; (try dsimp only at hSw); go_simp; (try with_reducible rfl)
            try simp only [Act.put, List.getElem_toArray, List.getElem_cons_succ, List.getElem_cons_zero, List.setIfInBounds_toArray, List.set_cons_zero, List.set_cons_succ]
            refine wpAnyH_take (i := 11) (v := undef) rfl (by kernel_rfl) (by kernel_rfl) (by kernel_rfl) (fun _ _ _ h => h) (Or.inr ⟨by rfl, rfl⟩) (by assumption) ?_
            try simp only [Act.put, List.getElem_toArray, List.getElem_cons_succ, List.getElem_cons_zero, List.setIfInBounds_toArray, List.set_cons_zero, List.set_cons_succ]
            refine wpAnyH_take (i := 12) (v := undef) rfl (by kernel_rfl) (by kernel_rfl) (by kernel_rfl) (fun _ _ _ h => h) (Or.inr ⟨by rfl, rfl⟩) (by assumption) ?_
            try simp only [Act.put, List.getElem_toArray, List.getElem_cons_succ, List.getElem_cons_zero, List.setIfInBounds_toArray, List.set_cons_zero, List.set_cons_succ]
            refine wpAnyH_take (i := 13) (v := undef) rfl (by kernel_rfl) (by kernel_rfl) (by kernel_rfl) (fun _ _ _ h => h) (Or.inr ⟨by rfl, rfl⟩) (by assumption) ?_
            try simp only [Act.put, List.getElem_toArray, List.getElem_cons_succ, List.getElem_cons_zero, List.setIfInBounds_toArray, List.set_cons_zero, List.set_cons_succ]
            refine wpAnyH_take (i := 14) (v := undef) rfl (by kernel_rfl) (by kernel_rfl) (by kernel_rfl) (fun _ _ _ h => h) (Or.inr ⟨by rfl, rfl⟩) (by assumption) ?_
            try simp only [Act.put, List.getElem_toArray, List.getElem_cons_succ, List.getElem_cons_zero, List.setIfInBounds_toArray, List.set_cons_zero, List.set_cons_succ]
            refine wpAnyH_take (i := 15) (v := undef) rfl (by kernel_rfl) (by kernel_rfl) (by kernel_rfl) (fun _ _ _ h => h) (Or.inr ⟨by rfl, rfl⟩) (by assumption) ?_
            try simp only [Act.put, List.getElem_toArray, List.getElem_cons_succ, List.getElem_cons_zero, List.setIfInBounds_toArray, List.set_cons_zero, List.set_cons_succ]
            refine wpAnyH_take (i := 16) (v := undef) rfl (by kernel_rfl) (by kernel_rfl) (by kernel_rfl) (fun _ _ _ h => h) (Or.inr ⟨by rfl, rfl⟩) (by assumption) ?_
            try simp only [Act.put, List.getElem_toArray, List.getElem_cons_succ, List.getElem_cons_zero, List.setIfInBounds_toArray, List.set_cons_zero, List.set_cons_succ]
            refine wpAnyH_take (i := 17) (v := undef) rfl (by kernel_rfl) (by kernel_rfl) (by kernel_rfl) (fun _ _ _ h => h) (Or.inr ⟨by rfl, rfl⟩) (by assumption) ?_
            try simp only [Act.put, List.getElem_toArray, List.getElem_cons_succ, List.getElem_cons_zero, List.setIfInBounds_toArray, List.set_cons_zero, List.set_cons_succ]
            refine wpAnyH_take (i := 18) (v := ?_) rfl (by kernel_rfl) (by kernel_rfl) (by kernel_rfl) (fun _ _ _ h => h) (Or.inl ⟨by rfl, ?_⟩) (by assumption) ?_
            rotate_left
            · intro w9 hSw; (try dsimp only at hSw); go_simp; (try with_reducible rfl)
            try simp only [Act.put, List.getElem_toArray, List.getElem_cons_succ, List.getElem_cons_zero, List.setIfInBounds_toArray, List.set_cons_zero, List.set_cons_succ]
            refine wpAnyH_done (by kernel_rfl) ?_ _
            have hD : Below wa.heap.size wa wa.drew := (Below.refl _ _).drew
            clear hHeld
            replace O1 := O1.on hD
            replace P0 := P0.on hD
            replace HW := Lib.hid (own_below HW.out hD)
            replace hb := below_on hD hb
            clear hD
            generalize wa.drew = wz at *
            have HT := Lib.hid (thN_yes HL.out hx.out (by subst hk0; exact thK_zero))
            clear u0 p0 p1 p2 e0
            have p0 := P0.cell 0
            have p1 := P0.cell 1
            have p2 := P0.cell 2
            simp only [List.getElem?_toArray, List.getElem?_cons_succ, List.getElem?_cons_zero] at p0 p1 p2
            have u0 := O1.cell 0
            simp only [List.getElem?_toArray, List.getElem?_cons_zero] at u0
            have zp := P0.lt
            have zo := O1.lt
            have hsz4 := hb.size
            go_wp2_with (at_builtin; with_reducible refine app_one _ c3_len one3 rfl (.tmp 45) (.tmp 47) 26 rfl (w1.heap.size + 1) 77 i0 _ Try.underlying26 hi hz0 hz1 hz2 rfl (by decide) (by decide) A' m c' _ rfl (HW.out.alloc _) wz.heap.size 1 (x, y, t) rfl ?_ (by omega) ?_ ?_)
            · exact news3 (Cell3.new _ _ _ _ _)
            · simp; omega
            · intro A2 c2' w5 hw5 hbw5
              have O5 : Blk w5 w1.heap.size 28 #[.slice A' m c'] := (hbw5.block w1.heap.size (by omega)).trans (O1.alloc _)
              have hb5 : Below w1.heap.size w1 w5 := (hb.alloc hb.size _).trans (hbw5.mono (by omega))
              obtain ⟨v0, y0, y1⟩ : w5.cell? ⟨w1.heap.size, 0, none⟩ = some (.slice A' m c') ∧ w5.frozen? ⟨w1.heap.size, 0, none⟩ = false ∧ w1.heap.size < w5.heap.size := ⟨O5.cel.cell, O5.frozen 0, O5.lt⟩
              clear hbw5 HW hb P0 O1 p0 p1 p2 u0
              go_wp2
              refine ⟨⟨k + 1, m + 1, c2', A2, by omega, by go_num, hb5.setCell (Nat.le_refl _) _, O5.set1 _, ?_, ?_⟩, by simp [intOf]; omega⟩
              · rw [HT.out, flat_snoc]; exact ownsRow_setCell_below hw5 (by simp only; omega) _
              · show (thN xs step (k + 1)).length = m + 1; rw [HT.out, List.length_append, HM.out]; rfl
          · have z1 : ((k : Int) == 0) = false := by simp; omega
            by_cases hkl : k + 1 = n
            · have z2 : ((k : Int) == (n : Int) - 1) = true := by simp; omega
              go_wp2_with fail
              refine wp_region_held_drew (S := (fun w' => (∀ b o, b < wa.heap.size → w'.cell? ⟨b, o, none⟩ = wa.cell? ⟨b, o, none⟩) ∧ Below wa.heap.size wa w')) (by kernel_rfl) ?_ (fun hHeld => ?_)
              · exact sk (Below.refl _ _).drew
              refine wpAnyH_take (i := 0) (v := ?_) rfl (by kernel_rfl) (by kernel_rfl) (by kernel_rfl) (fun _ _ _ h => h) (Or.inl ⟨by rfl, ?_⟩) (by assumption) ?_
              rotate_left
              · intro w9 hSw; (try dsimp only at hSw); go_simp; (try with_reducible rfl)
              try simp only [Act.put, List.getElem_toArray, List.getElem_cons_zero, List.setIfInBounds_toArray, List.set_cons_zero, List.set_cons_succ]
              refine wpAnyH_take (i := 1) (v := ?_) rfl (by kernel_rfl) (by kernel_rfl) (by kernel_rfl) (fun _ _ _ h => h) (Or.inl ⟨by rfl, ?_⟩) (by assumption) ?_
              rotate_left
              · intro w9 hSw; (try dsimp only at hSw); go_simp; (try with_reducible rfl)
              try simp only [Act.put, List.getElem_toArray, List.getElem_cons_succ, List.getElem_cons_zero, List.setIfInBounds_toArray, List.set_cons_zero, List.set_cons_succ]
              refine wpAnyH_take (i := 2) (v := ?_) rfl (by kernel_rfl) (by kernel_rfl) (by kernel_rfl) (fun _ _ _ h => h) (Or.inl ⟨by rfl, ?_⟩) (by assumption) ?_
              rotate_left
              · intro w9 hSw; (try dsimp only at hSw); go_simp; (try with_reducible rfl)
              try simp only [Act.put, List.getElem_toArray, List.getElem_cons_succ, List.getElem_cons_zero, List.setIfInBounds_toArray, List.set_cons_zero, List.set_cons_succ]
              refine wpAnyH_take (i := 3) (v := ?_) rfl (by kernel_rfl) (by kernel_rfl) (by kernel_rfl) (fun _ _ _ h => h) (Or.inl ⟨by rfl, ?_⟩) (by assumption) ?_
              rotate_left
              · intro w9 hSw; (try dsimp only at hSw); go_simp; (try with_reducible rfl)
              try simp only [Act.put, List.getElem_toArray, List.getElem_cons_succ, List.getElem_cons_zero, List.setIfInBounds_toArray, List.set_cons_zero, List.set_cons_succ]
              refine wpAnyH_take (i := 4) (v := ?_) rfl (by kernel_rfl) (by kernel_rfl) (by kernel_rfl) (fun _ _ _ h => h) (Or.inl ⟨by rfl, ?_⟩) (by assumption) ?_
              rotate_left
              · intro w9 hSw; (try dsimp only at hSw); go_simp; (try with_reducible rfl)
              try simp only [Act.put, List.getElem_toArray, List.getElem_cons_succ, List.getElem_cons_zero, List.setIfInBounds_toArray, List.set_cons_zero, List.set_cons_succ]
              refine wpAnyH_take (i := 5) (v := ?_) rfl (by kernel_rfl) (by kernel_rfl) (by kernel_rfl) (fun _ _ _ h => h) (Or.inl ⟨by rfl, ?_⟩) (by assumption) ?_
              rotate_left
              · intro w9 hSw; (try dsimp only at hSw); go_simp; (try with_reducible rfl)
              try simp only [Act.put, List.getElem_toArray, List.getElem_cons_succ, List.getElem_cons_zero, List.setIfInBounds_toArray, List.set_cons_zero, List.set_cons_succ]
              refine wpAnyH_take (i := 6) (v := ?_) rfl (by kernel_rfl) (by kernel_rfl) (by kernel_rfl) (fun _ _ _ h => h) (Or.inl ⟨by rfl, ?_⟩) (by assumption) ?_
              rotate_left
              · intro w9 hSw; (try dsimp only at hSw); go_simp; (try with_reducible rfl)
              try simp only [Act.put, List.getElem_toArray, List.getElem_cons_succ, List.getElem_cons_zero, List.setIfInBounds_toArray, List.set_cons_zero, List.set_cons_succ]
              refine wpAnyH_take (i := 7) (v := ?_) rfl (by kernel_rfl) (by kernel_rfl) (by kernel_rfl) (fun _ _ _ h => h) (Or.inl ⟨by rfl, ?_⟩) (by assumption) ?_
              rotate_left
              · intro w9 hSw; (try dsimp only at hSw); go_simp; (try with_reducible rfl)
              try simp only [Act.put, List.getElem_toArray, List.getElem_cons_succ, List.getElem_cons_zero, List.setIfInBounds_toArray, List.set_cons_zero, List.set_cons_succ]
              refine wpAnyH_take (i := 8) (v := ?_) rfl (by kernel_rfl) (by kernel_rfl) (by kernel_rfl) (fun _ _ _ h => h) (Or.inl ⟨by rfl, ?_⟩) (by assumption) ?_
              rotate_left
              · intro w9 hSw; (try dsimp only at hSw); go_simp; (try with_reducible rfl)
              try simp only [Act.put, List.getElem_toArray, List.getElem_cons_succ, List.getElem_cons_zero, List.setIfInBounds_toArray, List.set_cons_zero, List.set_cons_succ]
              refine wpAnyH_take (i := 9) (v := ?_) rfl (by kernel_rfl) (by kernel_rfl) (by kernel_rfl) (fun _ _ _ h => h) (Or.inl ⟨by rfl, ?_⟩) (by assumption) ?_
              rotate_left
              · intro w9 hSw; (try dsimp only at hSw); go_simp; (try with_reducible rfl)
              try simp only [Act.put, List.getElem_toArray, List.getElem_cons_succ, List.getElem_cons_zero, List.setIfInBounds_toArray, List.set_cons_zero, List.set_cons_succ]
              refine wpAnyH_take (i := 10) (v := ?_) rfl (by kernel_rfl) (by kernel_rfl) (by kernel_rfl) (fun _ _ _ h => h) (Or.inl ⟨by rfl, ?_⟩) (by assumption) ?_
              rotate_left
              · intro w9 hSw; (try dsimp only at hSw); go_simp; (try with_reducible rfl)
              try simp only [Act.put, List.getElem_toArray, List.getElem_cons_succ, List.getElem_cons_zero, List.setIfInBounds_toArray, List.set_cons_zero, List.set_cons_succ]
              refine wpAnyH_take (i := 11) (v := undef) rfl (by kernel_rfl) (by kernel_rfl) (by kernel_rfl) (fun _ _ _ h => h) (Or.inr ⟨by rfl, rfl⟩) (by assumption) ?_
              try simp only [Act.put, List.getElem_toArray, List.getElem_cons_succ, List.getElem_cons_zero, List.setIfInBounds_toArray, List.set_cons_zero, List.set_cons_succ]
              refine wpAnyH_take (i := 12) (v := undef) rfl (by kernel_rfl) (by kernel_rfl) (by kernel_rfl) (fun _ _ _ h => h) (Or.inr ⟨by rfl, rfl⟩) (by assumption) ?_
              try simp only [Act.put, List.getElem_toArray, List.getElem_cons_succ, List.getElem_cons_zero, List.setIfInBounds_toArray, List.set_cons_zero, List.set_cons_succ]
              refine wpAnyH_take (i := 13) (v := undef) rfl (by kernel_rfl) (by kernel_rfl) (by kernel_rfl) (fun _ _ _ h => h) (Or.inr ⟨by rfl, rfl⟩) (by assumption) ?_
              try simp only [Act.put, List.getElem_toArray, List.getElem_cons_succ, List.getElem_cons_zero, List.setIfInBounds_toArray, List.set_cons_zero, List.set_cons_succ]
              refine wpAnyH_take (i := 14) (v := undef) rfl (by kernel_rfl) (by kernel_rfl) (by kernel_rfl) (fun _ _ _ h => h) (Or.inr ⟨by rfl, rfl⟩) (by assumption) ?_
              try simp only [Act.put, List.getElem_toArray, List.getElem_cons_succ, List.getElem_cons_zero, List.setIfInBounds_toArray, List.set_cons_zero, List.set_cons_succ]
              refine wpAnyH_take (i := 15) (v := undef) rfl (by kernel_rfl) (by kernel_rfl) (by kernel_rfl) (fun _ _ _ h => h) (Or.inr ⟨by rfl, rfl⟩) (by assumption) ?_
              try simp only [Act.put, List.getElem_toArray, List.getElem_cons_succ, List.getElem_cons_zero, List.setIfInBounds_toArray, List.set_cons_zero, List.set_cons_succ]
              refine wpAnyH_take (i := 16) (v := undef) rfl (by kernel_rfl) (by kernel_rfl) (by kernel_rfl) (fun _ _ _ h => h) (Or.inr ⟨by rfl, rfl⟩) (by assumption) ?_
              try simp only [Act.put, List.getElem_toArray, List.getElem_cons_succ, List.getElem_cons_zero, List.setIfInBounds_toArray, List.set_cons_zero, List.set_cons_succ]
              refine wpAnyH_take (i := 17) (v := undef) rfl (by kernel_rfl) (by kernel_rfl) (by kernel_rfl) (fun _ _ _ h => h) (Or.inr ⟨by rfl, rfl⟩) (by assumption) ?_
              try simp only [Act.put, List.getElem_toArray, List.getElem_cons_succ, List.getElem_cons_zero, List.setIfInBounds_toArray, List.set_cons_zero, List.set_cons_succ]
              refine wpAnyH_take (i := 18) (v := ?_) rfl (by kernel_rfl) (by kernel_rfl) (by kernel_rfl) (fun _ _ _ h => h) (Or.inl ⟨by rfl, ?_⟩) (by assumption) ?_
              rotate_left
              · intro w9 hSw; (try dsimp only at hSw); go_simp; (try with_reducible rfl)
              try simp only [Act.put, List.getElem_toArray, List.getElem_cons_succ, List.getElem_cons_zero, List.setIfInBounds_toArray, List.set_cons_zero, List.set_cons_succ]
              refine wpAnyH_done (by kernel_rfl) ?_ _
              have hD : Below wa.heap.size wa wa.drew := (Below.refl _ _).drew
              clear hHeld
              replace O1 := O1.on hD
              replace P0 := P0.on hD
              replace HW := Lib.hid (own_below HW.out hD)
              replace hb := below_on hD hb
              clear hD
              generalize wa.drew = wz at *
              have HT := Lib.hid (thN_yes HL.out hx.out (thK_last (by rw [hl.out]; exact hkl)))
              clear u0 p0 p1 p2 e0
              have p0 := P0.cell 0
              have p1 := P0.cell 1
              have p2 := P0.cell 2
              simp only [List.getElem?_toArray, List.getElem?_cons_succ, List.getElem?_cons_zero] at p0 p1 p2
              have u0 := O1.cell 0
              simp only [List.getElem?_toArray, List.getElem?_cons_zero] at u0
              have zp := P0.lt
              have zo := O1.lt
              have hsz4 := hb.size
              go_wp2_with (at_builtin; with_reducible refine app_one _ c3_len one3 rfl (.tmp 45) (.tmp 47) 26 rfl (w1.heap.size + 1) 77 i0 _ Try.underlying26 hi hz0 hz1 hz2 rfl (by decide) (by decide) A' m c' _ rfl (HW.out.alloc _) wz.heap.size 1 (x, y, t) rfl ?_ (by omega) ?_ ?_)
              · exact news3 (Cell3.new _ _ _ _ _)
              · simp; omega
              · intro A2 c2' w5 hw5 hbw5
                have O5 : Blk w5 w1.heap.size 28 #[.slice A' m c'] := (hbw5.block w1.heap.size (by omega)).trans (O1.alloc _)
                have hb5 : Below w1.heap.size w1 w5 := (hb.alloc hb.size _).trans (hbw5.mono (by omega))
                obtain ⟨v0, y0, y1⟩ : w5.cell? ⟨w1.heap.size, 0, none⟩ = some (.slice A' m c') ∧ w5.frozen? ⟨w1.heap.size, 0, none⟩ = false ∧ w1.heap.size < w5.heap.size := ⟨O5.cel.cell, O5.frozen 0, O5.lt⟩
                clear hbw5 HW hb P0 O1 p0 p1 p2 u0
                go_wp2
                refine ⟨⟨k + 1, m + 1, c2', A2, by omega, by go_num, hb5.setCell (Nat.le_refl _) _, O5.set1 _, ?_, ?_⟩, by simp [intOf]; omega⟩
                · rw [HT.out, flat_snoc]; exact ownsRow_setCell_below hw5 (by simp only; omega) _
                · show (thN xs step (k + 1)).length = m + 1; rw [HT.out, List.length_append, HM.out]; rfl
            · have z2 : ((k : Int) == (n : Int) - 1) = false := by simp; omega
              have hmm : m - 1 < m := by omega
              obtain ⟨pp, hpp⟩ : ∃ pp, L[m - 1]? = some pp := ⟨_, List.getElem?_eq_getElem (show m - 1 < L.length by rw [HM.out]; omega)⟩
              obtain ⟨px, py, pt⟩ := pp
              have HP := Lib.hid hpp
              have VP : Hid (ptOk (px, py, pt) = true) := strokeB_mem Hok.out (thN_mem (k := k) (by rw [hl.out]; omega) _ (by rw [HL.out]; exact List.mem_of_getElem? hpp))
              have HK := Lib.hid (thK_mid (step := step) hk0 (by rw [hl.out]; exact hkl) HM.out hpp hx.out)
              obtain ⟨ld, hld⟩ : ∃ ld, lenD (px, py, pt) (x, y, t) = ld := ⟨_, rfl⟩
              have HD := Lib.hid hld
              rw [hld] at HK
              clear hpp hld
              by_cases hge : step * 16 ≤ ld
              · go_wp2_with fail
                go_region_held3 (fun w' => (∀ b o, b < wa.heap.size → w'.cell? ⟨b, o, none⟩ = wa.cell? ⟨b, o, none⟩) ∧ Below wa.heap.size wa w') (first | exact sk (Below.refl _ _).drew | (go_split_ands; (first | (exact sk (below_app ‹_› hbw3 (Below.size ‹_›))) | (exact sk (below_app ‹_› hbw2 (Below.size ‹_›)))))) (first | (go_at_call 68; with_reducible refine (lastOf_rd _ _ _ L (px, py, pt) _ (RdL.of_own HM.out (own_below HW.out (Below.refl wa.heap.size wa).drew)) HP.out).mono ?_; rintro e w2 ⟨rfl, hbw2⟩) | (go_at_call 67; with_reducible refine (lengthOf_any px py pt x y t _ VP.out VX.out).mono ?_; rw [HD.out]; rintro e w3 ⟨rfl, hbw3⟩))
                go_split_ands
                have hD : Below wa.heap.size wa w3 := ‹Below wa.heap.size wa w3›
                replace O1 := O1.on hD
                replace P0 := P0.on hD
                replace HW := Lib.hid (own_below HW.out hD)
                replace hb := below_on hD hb
                clear hD
                generalize w3 = wz at *
                have HT := Lib.hid (thN_yes HL.out hx.out (by rw [HK.out]; exact decide_eq_true hge))
                skip
                have p0 := P0.cell 0
                have p1 := P0.cell 1
                have p2 := P0.cell 2
                simp only [List.getElem?_toArray, List.getElem?_cons_succ, List.getElem?_cons_zero] at p0 p1 p2
                have u0 := O1.cell 0
                simp only [List.getElem?_toArray, List.getElem?_cons_zero] at u0
                have zp := P0.lt
                have zo := O1.lt
                have hsz4 := hb.size
                go_wp2_with (at_builtin; with_reducible refine app_one _ c3_len one3 rfl (.tmp 45) (.tmp 47) 26 rfl (w1.heap.size + 1) 77 i0 _ Try.underlying26 hi hz0 hz1 hz2 rfl (by decide) (by decide) A' m c' _ rfl (HW.out.alloc _) wz.heap.size 1 (x, y, t) rfl ?_ (by omega) ?_ ?_)
                · exact news3 (Cell3.new _ _ _ _ _)
                · simp; omega
                · intro A2 c2' w5 hw5 hbw5
                  have O5 : Blk w5 w1.heap.size 28 #[.slice A' m c'] := (hbw5.block w1.heap.size (by omega)).trans (O1.alloc _)
                  have hb5 : Below w1.heap.size w1 w5 := (hb.alloc hb.size _).trans (hbw5.mono (by omega))
                  obtain ⟨v0, y0, y1⟩ : w5.cell? ⟨w1.heap.size, 0, none⟩ = some (.slice A' m c') ∧ w5.frozen? ⟨w1.heap.size, 0, none⟩ = false ∧ w1.heap.size < w5.heap.size := ⟨O5.cel.cell, O5.frozen 0, O5.lt⟩
                  clear hbw5 HW hb P0 O1 p0 p1 p2 u0
                  go_wp2
                  refine ⟨⟨k + 1, m + 1, c2', A2, by omega, by go_num, hb5.setCell (Nat.le_refl _) _, O5.set1 _, ?_, ?_⟩, by simp [intOf]; omega⟩
                  · rw [HT.out, flat_snoc]; exact ownsRow_setCell_below hw5 (by simp only; omega) _
                  · show (thN xs step (k + 1)).length = m + 1; rw [HT.out, List.length_append, HM.out]; rfl
              · have hlt9 : ld < step * 16 := by omega
                go_wp2_with fail
                go_region_held3 (fun w' => (∀ b o, b < wa.heap.size → w'.cell? ⟨b, o, none⟩ = wa.cell? ⟨b, o, none⟩) ∧ Below wa.heap.size wa w') (first | exact sk (Below.refl _ _).drew | (go_split_ands; (first | (exact sk (below_app ‹_› hbw3 (Below.size ‹_›))) | (exact sk (below_app ‹_› hbw2 (Below.size ‹_›)))))) (first | (go_at_call 68; with_reducible refine (lastOf_rd _ _ _ L (px, py, pt) _ (RdL.of_own HM.out (own_below HW.out (Below.refl wa.heap.size wa).drew)) HP.out).mono ?_; rintro e w2 ⟨rfl, hbw2⟩) | (go_at_call 67; with_reducible refine (lengthOf_any px py pt x y t _ VP.out VX.out).mono ?_; rw [HD.out]; rintro e w3 ⟨rfl, hbw3⟩))
                go_split_ands
                have hD : Below wa.heap.size wa w3 := ‹Below wa.heap.size wa w3›
                replace O1 := O1.on hD
                replace P0 := P0.on hD
                replace HW := Lib.hid (own_below HW.out hD)
                replace hb := below_on hD hb
                have HT := Lib.hid (thN_no HL.out (show thK xs step L k = false by rw [HK.out]; exact decide_eq_false (by omega)))
                clear hD
                go_wp2
                refine ⟨⟨k + 1, m, c', A', by omega, by go_num, hb, O1, by rw [HT.out]; exact HW.out, ?_⟩, by simp [intOf]; omega⟩
                show (thN xs step (k + 1)).length = m; rw [HT.out, HM.out]
        · have hkn : k = n := by omega
          subst hkn
          replace R0 := R0.on hb
          obtain ⟨j0, f0, zr⟩ : wr.cell? ⟨w.heap.size + 1, 0, none⟩ = some (.slice none 0 0) ∧ wr.frozen? ⟨w.heap.size + 1, 0, none⟩ = false ∧ w.heap.size + 1 < wr.heap.size := ⟨R0.cel.cell, R0.frozen 0, R0.lt⟩
          have u0 := O1.cell 0
          simp only [List.getElem?_toArray, List.getElem?_cons_zero] at u0
          have hrl : w.heap.size + 1 < w1.heap.size := RZ
          have HW := Lib.hid hw
          clear hw K1
          go_wp2
          rw [F.out.1, F.out.2, hl.out, HL.out]
          refine bodyPost_ret (v := .tuple #[.agg #[.slice A' m c'], .int .i64 0]) (by simp [results, Try.results22, go_sem, j0]) rfl ⟨A', m, c', rfl, ?_, hm.out, by omega, (by repeat (first | exact Below.refl _ _ | assumption | refine Below.drew ?_ | refine below_drewN ?_ _ | refine Below.alloc ?_ (by first | omega | (simp <;> omega)) _ | refine Below.setCell ?_ (by first | omega | (simp <;> omega)) _))⟩
          exact own_mono (ownsRow_setCell_below HW.out (by simp only; omega) _) (by have := hB.size; omega)
set_option maxRecDepth 100000 in
set_option maxHeartbeats 16000000 in
theorem sThin_any (A : Option Addr) (n c : Nat) (xs : List T3) (step : Int) (w : World) (hr : RdL c3 3 w w.heap.size A n c xs) (hn : n ≤ 1048576) :
    Calls Try.prog 21 #[.agg #[.slice A n c], .int .i64 step] w fun e w' => ∃ A' n' c', e = .returned (.tuple #[.agg #[.slice A' n' c'], .int .i64 (thE xs step)]) ∧ w'.ownsRow w.heap.size 77 3 (.slice A' n' c') n' ((thL xs step).flatMap c3) ∧
      (thL xs step).length = n' ∧ n' ≤ 1048576 ∧ Below w.heap.size w w' := by
  obtain ⟨i0, hi, hz0, hz1, hz2⟩ := info_parts Try.infoPoint
  have hl := Lib.hid hr.len
  have K0 : Blk ((w.alloc (.cells #[.slice A n c] 28)).alloc (.cells #[.slice none 0 0] 28)) w.heap.size 28 #[.slice A n c] := (Blk.new _ _ _).alloc _
  have R0 : Blk ((w.alloc (.cells #[.slice A n c] 28)).alloc (.cells #[.slice none 0 0] 28)) (w.heap.size + 1) 28 #[.slice none 0 0] := by have h := Blk.new (w.alloc (.cells #[.slice A n c] 28)) 28 #[.slice none 0 0]; simpa using h
  have hB : Below w.heap.size w ((w.alloc (.cells #[.slice A n c] 28)).alloc (.cells #[.slice none 0 0] 28)) := (by repeat (first | exact Below.refl _ _ | assumption | refine Below.drew ?_ | refine below_drewN ?_ _ | refine Below.alloc ?_ (by first | omega | (simp <;> omega)) _ | refine Below.setCell ?_ (by first | omega | (simp <;> omega)) _))
  go_enter Try.func21, Try.ntmps21
  go_wp2_with fail
  generalize (w.alloc (.cells #[.slice A n c] 28)).alloc (.cells #[.slice none 0 0] 28) = v at *
  replace hr := hr.on hB
  skip
  skip
  with_reducible refine (l02Stroke_any _ _ _ xs _ _ _ K0 hr hn).mono ?_
  rintro e w1 ⟨rfl, hbw1⟩
  skip
  replace R0 := R0.on hbw1
  replace K0 := K0.on hbw1
  replace hB := below_on hbw1 hB
  replace hr := hr.on hbw1
  clear hbw1
  cases hok : strokeB xs with
  | false =>
    have F := th_bad (m := step) hok
    clear hr
    obtain ⟨j0, f0, zr⟩ : w1.cell? ⟨w.heap.size + 1, 0, none⟩ = some (.slice none 0 0) ∧ w1.frozen? ⟨w.heap.size + 1, 0, none⟩ = false ∧ w.heap.size + 1 < w1.heap.size := ⟨R0.cel.cell, R0.frozen 0, R0.lt⟩
    go_wp2
    rw [F.1, F.2]
    exact bodyPost_ret (v := .tuple #[.agg #[.slice none 0 0], .int .i64 1]) (by simp [results, Try.results21, go_sem, j0]) rfl ⟨none, 0, 0, rfl, World.ownsRow_nil _ _ _ _, rfl, by decide, (by repeat (first | exact Below.refl _ _ | assumption | refine Below.drew ?_ | refine below_drewN ?_ _ | refine Below.alloc ?_ (by first | omega | (simp <;> omega)) _ | refine Below.setCell ?_ (by first | omega | (simp <;> omega)) _))⟩
  | true =>
    have Hok := Lib.hid hok
    have hle := strokeB_len hok
    rw [hl.out] at hle
    cases hp : inB 0 1000 step with
    | false =>
      have F := th_far hok hp
      clear hr
      obtain ⟨j0, f0, zr⟩ : w1.cell? ⟨w.heap.size + 1, 0, none⟩ = some (.slice none 0 0) ∧ w1.frozen? ⟨w.heap.size + 1, 0, none⟩ = false ∧ w.heap.size + 1 < w1.heap.size := ⟨R0.cel.cell, R0.frozen 0, R0.lt⟩
      go_wp2_with (first | (go_at_call 64; with_reducible refine (l00In_any _ _ _ _).mono ?_; rintro e w' ⟨rfl, rfl⟩))
      rw [F.1, F.2]
      exact bodyPost_ret (v := .tuple #[.agg #[.slice none 0 0], .int .i64 2]) (by simp [results, Try.results21, go_sem, j0]) rfl ⟨none, 0, 0, rfl, World.ownsRow_nil _ _ _ _, rfl, by decide, (by repeat (first | exact Below.refl _ _ | assumption | refine Below.drew ?_ | refine below_drewN ?_ _ | refine Below.alloc ?_ (by first | omega | (simp <;> omega)) _ | refine Below.setCell ?_ (by first | omega | (simp <;> omega)) _))⟩
    | true =>
      have F := Lib.hid (th_ok hok hp)
      obtain ⟨g1, g2⟩ := inB_iff.1 hp
      have HR := Lib.hid hr
      have s16 : IntKind.i64.wrap (step * 16) = step * 16 := IntWalk.i64_in _ (by omega)
      have e0 := K0.cell 0
      simp only [List.getElem?_toArray, List.getElem?_cons_zero] at e0
      have zk := K0.lt
      have hr2 := hr
      obtain ⟨bs, os, x0, y0, t0, rfl, hbs, hx0, s0, s1, s2⟩ := hr2.at3 (show 0 < n by omega)
      simp only [Nat.zero_mul, Nat.add_zero] at s0 s1 s2
      have i0' : (0 : Int) < (n : Int) := by omega
      have RZ := R0.lt
      clear hr hr2 hok
      go_wp2_with (first | (go_at_call 64; with_reducible refine (l00In_any _ _ _ _).mono ?_; rintro e w' ⟨rfl, rfl⟩))
      clear hp e0
      have hT1 : thN xs step 1 = [(x0, y0, t0)] := thN_yes (l := []) rfl hx0.out thK_zero
      have hb1 : Below w1.heap.size w1 ((w1.alloc (.cells #[.int .i64 x0, .int .i64 y0, .int .i64 t0] 77)).alloc (.cells #[.slice (some ⟨w1.heap.size, 0, none⟩) 1 1] 28)) := (by repeat (first | exact Below.refl _ _ | assumption | refine Below.drew ?_ | refine below_drewN ?_ _ | refine Below.alloc ?_ (by first | omega | (simp <;> omega)) _ | refine Below.setCell ?_ (by first | omega | (simp <;> omega)) _))
      have O0 : Blk ((w1.alloc (.cells #[.int .i64 x0, .int .i64 y0, .int .i64 t0] 77)).alloc (.cells #[.slice (some ⟨w1.heap.size, 0, none⟩) 1 1] 28)) (w1.heap.size + 1) 28 #[.slice (some ⟨w1.heap.size, 0, none⟩) 1 1] := by have h := Blk.new (w1.alloc (.cells #[.int .i64 x0, .int .i64 y0, .int .i64 t0] 77)) 28 #[.slice (some ⟨w1.heap.size, 0, none⟩) 1 1]; simpa using h
      have hw0 : ((w1.alloc (.cells #[.int .i64 x0, .int .i64 y0, .int .i64 t0] 77)).alloc (.cells #[.slice (some ⟨w1.heap.size, 0, none⟩) 1 1] 28)).ownsRow w1.heap.size 77 3 (.slice (some ⟨w1.heap.size, 0, none⟩) 1 1) 1 ((thN xs step 1).flatMap c3) := by
        rw [hT1]
        exact (World.ownsRow_lit (base := w1.heap.size) (e := 77) (size := 3) w1 #[.int .i64 x0, .int .i64 y0, .int .i64 t0] 1 (Nat.le_refl _) (by simp [maxLen]) rfl).alloc _
      clear s0 s1 s2
      generalize (w1.alloc (.cells #[.int .i64 x0, .int .i64 y0, .int .i64 t0] 77)).alloc (.cells #[.slice (some ⟨w1.heap.size, 0, none⟩) 1 1] 28) = w2 at *
      obtain ⟨g6, hg6⟩ : ∃ g6, w1.heap.size + 1 = g6 := ⟨_, rfl⟩
      rw [hg6] at O0
      rw [hg6]
      go_loopw [7] (fun i wr => ∃ (k m c' g : Nat), 1 ≤ k ∧ k ≤ n ∧ i = .int .i64 k ∧ Below w1.heap.size w1 wr ∧ Blk wr g6 28 #[.slice (some ⟨g, 0, none⟩) m c'] ∧ wr.ownsRow w1.heap.size 77 3 (.slice (some ⟨g, 0, none⟩) m c') m ((thN xs step k).flatMap c3) ∧ Hid ((thN xs step k).length = m) ∧ g ≠ g6) (fun i _ => n - (intOf i).toNat)
      case atStart => exact ⟨1, 1, 1, w1.heap.size, by omega, by omega, rfl, hb1, O0, hw0, by rw [hT1]; rfl, by omega⟩
      case round =>
        clear O0 hb1 hw0 hT1
        obtain ⟨k, m, c', g, hk1, hk, rfl, hb, O1, hw, hm, hgg⟩ := hrel
        have K1 := K0.on hb
        have hbr := below_on hb hB
        have e0 := K1.cell 0
        simp only [List.getElem?_toArray, List.getElem?_cons_zero] at e0
        have zo := O1.lt
        have hsz := hb.size
        obtain ⟨L, hL⟩ : ∃ L, thN xs step k = L := ⟨_, rfl⟩
        have hmk := (thN_len xs step k)
        rw [hm.out] at hmk
        obtain ⟨hm1, hm2⟩ := hmk
        have hm3 := hm2 hk1
        rw [hL] at hw hm
        have HL := Lib.hid hL
        have zg := (hw.lt g rfl)
        by_cases hlt : k < n
        · obtain ⟨b, off, x, y, t, he, hbl, hx, q0, q1, q2⟩ := (HR.out.below hb).at3 hlt
          cases he
          obtain ⟨b9, o9, px, py, pt, he9, _, hpp, p0, p1, p2⟩ := (RdL.of_own hm.out hw).at3 (show m - 1 < m by omega)
          cases he9
          simp only [Nat.zero_add] at p0 p1 p2
          replace hbl : bs < wr.heap.size := by omega
          have i1 : (k : Int) < (n : Int) := by omega
          have i2 : (0 : Int) ≤ (k : Int) := by omega
          have zk2 : w.heap.size < wr.heap.size := by omega
          have i3 : IntKind.i64.wrap ((n : Int) - 1) = (n : Int) - 1 := IntWalk.i64_in _ (by omega)
          have i4 : IntKind.i64.wrap ((m : Int) - 1) = (m : Int) - 1 := IntWalk.i64_in _ (by omega)
          have i5 : (0 : Int) ≤ (m : Int) - 1 := by omega
          have i6 : (m : Int) - 1 < (m : Int) := by omega
          have i7 : ((m : Int) - 1).toNat = m - 1 := by omega
          have VX := Lib.hid (strokeB_at Hok.out hx.out)
          have VP : Hid (ptOk (px, py, pt) = true) := strokeB_mem Hok.out (thN_mem (k := k) (by rw [hl.out]; omega) _ (by rw [HL.out]; exact List.mem_of_getElem? hpp.out))
          have HW := Lib.hid hw
          have HM := Lib.hid hm.out
          have u0 := O1.cell 0
          simp only [List.getElem?_toArray, List.getElem?_cons_zero] at u0
          clear hw hm hL
          go_wp2_with fail
          have P0 := Blk.new (wr) 77 #[.int .i64 px, .int .i64 py, .int .i64 pt]
          have hbwa : Below (wr).heap.size (wr) ((wr).alloc (.cells #[.int .i64 px, .int .i64 py, .int .i64 pt] 77)) := (Below.refl _ _).alloc (Nat.le_refl _) _
          generalize (wr).alloc (.cells #[.int .i64 px, .int .i64 py, .int .i64 pt] 77) = wa at *
          replace e0 := cell_on2 hbwa e0
          replace O1 := O1.on hbwa
          replace HW := Lib.hid (own_below HW.out hbwa)
          replace hb := below_on hbwa hb
          replace q0 := cell_on2 hbwa q0
          replace q1 := cell_on2 hbwa q1
          replace q2 := cell_on2 hbwa q2
          clear p0 p1 p2 K1 u0
          have p0 := P0.cell 0
          have p1 := P0.cell 1
          have p2 := P0.cell 2
          simp only [List.getElem?_toArray, List.getElem?_cons_succ, List.getElem?_cons_zero] at p0 p1 p2
          have zp := P0.lt
          have zo := O1.lt
          have zk2 : w.heap.size < wa.heap.size := by have := hbwa.size; omega
          replace hbl : bs < wa.heap.size := by have := hbwa.size; omega
          clear hbwa
          by_cases hkl : k + 1 = n
          · have z2 : ((k : Int) == (n : Int) - 1) = true := by simp; omega
            go_wp2_with fail
            refine wp_region_held_drew (S := (fun w' => (∀ b o, b < wa.heap.size → w'.cell? ⟨b, o, none⟩ = wa.cell? ⟨b, o, none⟩) ∧ Below wa.heap.size wa w')) (by kernel_rfl) ?_ (fun hHeld => ?_)
            · exact sk (Below.refl _ _).drew
            refine wpAnyH_take (i := 0) (v := ?_) rfl (by kernel_rfl) (by kernel_rfl) (by kernel_rfl) (fun _ _ _ h => h) (Or.inl ⟨by rfl, ?_⟩) (by assumption) ?_
            rotate_left
            · intro w9 hSw; (try dsimp only at hSw); go_simp; (try with_reducible rfl)
            try simp only [Act.put, List.getElem_toArray, List.getElem_cons_zero, List.setIfInBounds_toArray, List.set_cons_zero, List.set_cons_succ]
            refine wpAnyH_take (i := 1) (v := ?_) rfl (by kernel_rfl) (by kernel_rfl) (by kernel_rfl) (fun _ _ _ h => h) (Or.inl ⟨by rfl, ?_⟩) (by assumption) ?_
            rotate_left
            · intro w9 hSw; (try dsimp only at hSw); go_simp; (try with_reducible rfl)
            try simp only [Act.put, List.getElem_toArray, List.getElem_cons_succ, List.getElem_cons_zero, List.setIfInBounds_toArray, List.set_cons_zero, List.set_cons_succ]
            refine wpAnyH_take (i := 2) (v := ?_) rfl (by kernel_rfl) (by kernel_rfl) (by kernel_rfl) (fun _ _ _ h => h) (Or.inl ⟨by rfl, ?_⟩) (by assumption) ?_
            rotate_left
            · intro w9 hSw; (try dsimp only at hSw); go_simp; (try with_reducible rfl)
            try simp only [Act.put, List.getElem_toArray, List.getElem_cons_succ, List.getElem_cons_zero, List.setIfInBounds_toArray, List.set_cons_zero, List.set_cons_succ]
            refine wpAnyH_take (i := 3) (v := ?_) rfl (by kernel_rfl) (by kernel_rfl) (by kernel_rfl) (fun _ _ _ h => h) (Or.inl ⟨by rfl, ?_⟩) (by assumption) ?_
            rotate_left
            · intro w9 hSw; (try dsimp only at hSw); go_simp; (try with_reducible rfl)
            try simp only [Act.put, List.getElem_toArray, List.getElem_cons_succ, List.getElem_cons_zero, List.setIfInBounds_toArray, List.set_cons_zero, List.set_cons_succ]
            refine wpAnyH_take (i := 4) (v := ?_) rfl (by kernel_rfl) (by kernel_rfl) (by kernel_rfl) (fun _ _ _ h => h) (Or.inl ⟨by rfl, ?_⟩) (by assumption) ?_
            rotate_left
            · intro w9 hSw; (try dsimp only at hSw); go_simp; (try with_reducible rfl)
            try simp only [Act.put, List.getElem_toArray, List.getElem_cons_succ, List.getElem_cons_zero, List.setIfInBounds_toArray, List.set_cons_zero, List.set_cons_succ]
            refine wpAnyH_take (i := 5) (v := ?_) rfl (by kernel_rfl) (by kernel_rfl) (by kernel_rfl) (fun _ _ _ h => h) (Or.inl ⟨by rfl, ?_⟩) (by assumption) ?_
            rotate_left
            · intro w9 hSw; (try dsimp only at hSw); go_simp; (try with_reducible rfl)
            try simp only [Act.put, List.getElem_toArray, List.getElem_cons_succ, List.getElem_cons_zero, List.setIfInBounds_toArray, List.set_cons_zero, List.set_cons_succ]
            refine wpAnyH_take (i := 6) (v := ?_) rfl (by kernel_rfl) (by kernel_rfl) (by kernel_rfl) (fun _ _ _ h => h) (Or.inl ⟨by rfl, ?_⟩) (by assumption) ?_
            rotate_left
            · intro w9 hSw; (try dsimp only at hSw); go_simp; (try with_reducible rfl)
            try simp only [Act.put, List.getElem_toArray, List.getElem_cons_succ, List.getElem_cons_zero, List.setIfInBounds_toArray, List.set_cons_zero, List.set_cons_succ]
            refine wpAnyH_take (i := 7) (v := undef) rfl (by kernel_rfl) (by kernel_rfl) (by kernel_rfl) (fun _ _ _ h => h) (Or.inr ⟨by rfl, rfl⟩) (by assumption) ?_
            try simp only [Act.put, List.getElem_toArray, List.getElem_cons_succ, List.getElem_cons_zero, List.setIfInBounds_toArray, List.set_cons_zero, List.set_cons_succ]
            refine wpAnyH_take (i := 8) (v := undef) rfl (by kernel_rfl) (by kernel_rfl) (by kernel_rfl) (fun _ _ _ h => h) (Or.inr ⟨by rfl, rfl⟩) (by assumption) ?_
            try simp only [Act.put, List.getElem_toArray, List.getElem_cons_succ, List.getElem_cons_zero, List.setIfInBounds_toArray, List.set_cons_zero, List.set_cons_succ]
            refine wpAnyH_take (i := 9) (v := undef) rfl (by kernel_rfl) (by kernel_rfl) (by kernel_rfl) (fun _ _ _ h => h) (Or.inr ⟨by rfl, rfl⟩) (by assumption) ?_
            try simp only [Act.put, List.getElem_toArray, List.getElem_cons_succ, List.getElem_cons_zero, List.setIfInBounds_toArray, List.set_cons_zero, List.set_cons_succ]
            refine wpAnyH_take (i := 10) (v := undef) rfl (by kernel_rfl) (by kernel_rfl) (by kernel_rfl) (fun _ _ _ h => h) (Or.inr ⟨by rfl, rfl⟩) (by assumption) ?_
            try simp only [Act.put, List.getElem_toArray, List.getElem_cons_succ, List.getElem_cons_zero, List.setIfInBounds_toArray, List.set_cons_zero, List.set_cons_succ]
            refine wpAnyH_take (i := 11) (v := undef) rfl (by kernel_rfl) (by kernel_rfl) (by kernel_rfl) (fun _ _ _ h => h) (Or.inr ⟨by rfl, rfl⟩) (by assumption) ?_
            try simp only [Act.put, List.getElem_toArray, List.getElem_cons_succ, List.getElem_cons_zero, List.setIfInBounds_toArray, List.set_cons_zero, List.set_cons_succ]
            refine wpAnyH_take (i := 12) (v := undef) rfl (by kernel_rfl) (by kernel_rfl) (by kernel_rfl) (fun _ _ _ h => h) (Or.inr ⟨by rfl, rfl⟩) (by assumption) ?_
            try simp only [Act.put, List.getElem_toArray, List.getElem_cons_succ, List.getElem_cons_zero, List.setIfInBounds_toArray, List.set_cons_zero, List.set_cons_succ]
            refine wpAnyH_take (i := 13) (v := undef) rfl (by kernel_rfl) (by kernel_rfl) (by kernel_rfl) (fun _ _ _ h => h) (Or.inr ⟨by rfl, rfl⟩) (by assumption) ?_
            try simp only [Act.put, List.getElem_toArray, List.getElem_cons_succ, List.getElem_cons_zero, List.setIfInBounds_toArray, List.set_cons_zero, List.set_cons_succ]
            refine wpAnyH_take (i := 14) (v := undef) rfl (by kernel_rfl) (by kernel_rfl) (by kernel_rfl) (fun _ _ _ h => h) (Or.inr ⟨by rfl, rfl⟩) (by assumption) ?_
            try simp only [Act.put, List.getElem_toArray, List.getElem_cons_succ, List.getElem_cons_zero, List.setIfInBounds_toArray, List.set_cons_zero, List.set_cons_succ]
            refine wpAnyH_take (i := 15) (v := undef) rfl (by kernel_rfl) (by kernel_rfl) (by kernel_rfl) (fun _ _ _ h => h) (Or.inr ⟨by rfl, rfl⟩) (by assumption) ?_
            try simp only [Act.put, List.getElem_toArray, List.getElem_cons_succ, List.getElem_cons_zero, List.setIfInBounds_toArray, List.set_cons_zero, List.set_cons_succ]
            refine wpAnyH_take (i := 16) (v := undef) rfl (by kernel_rfl) (by kernel_rfl) (by kernel_rfl) (fun _ _ _ h => h) (Or.inr ⟨by rfl, rfl⟩) (by assumption) ?_
            try simp only [Act.put, List.getElem_toArray, List.getElem_cons_succ, List.getElem_cons_zero, List.setIfInBounds_toArray, List.set_cons_zero, List.set_cons_succ]
            refine wpAnyH_take (i := 17) (v := ?_) rfl (by kernel_rfl) (by kernel_rfl) (by kernel_rfl) (fun _ _ _ h => h) (Or.inl ⟨by rfl, ?_⟩) (by assumption) ?_
            rotate_left
            · intro w9 hSw; (try dsimp only at hSw); go_simp; (try with_reducible rfl)
            try simp only [Act.put, List.getElem_toArray, List.getElem_cons_succ, List.getElem_cons_zero, List.setIfInBounds_toArray, List.set_cons_zero, List.set_cons_succ]
            refine wpAnyH_done (by kernel_rfl) ?_ _
            have hD : Below wa.heap.size wa wa.drew := (Below.refl _ _).drew
            clear hHeld
            replace O1 := O1.on hD
            replace HW := Lib.hid (own_below HW.out hD)
            replace hb := below_on hD hb
            replace e0 := cell_on2 hD e0
            replace q0 := cell_on2 hD q0
            replace q1 := cell_on2 hD q1
            replace q2 := cell_on2 hD q2
            replace hbl := Nat.lt_of_lt_of_le hbl hD.size
            replace zk2 := Nat.lt_of_lt_of_le zk2 hD.size
            clear hD
            generalize wa.drew = wz at *
            have HT := Lib.hid (thN_yes HL.out hx.out (thK_last (by rw [hl.out]; exact hkl)))
            clear p0 p1 p2 P0
            have u0 := O1.cell 0
            simp only [List.getElem?_toArray, List.getElem?_cons_zero] at u0
            have zo := O1.lt
            have hsz4 := hb.size
            have HO := Lib.hid O1
            have Hb := Lib.hid hb
            have hmm : m ≤ 1048576 := by omega
            clear O1 hb
            go_wp2_with fail
            go_region_law (refine step_append_lies _ (by rfl) (.tmp 56) (.tmp 62) 26 (by rfl) w1.heap.size 77 i0 _ 3 24 Try.underlying26 hi hz0 hz1 hz2 rfl (by decide) (.slice (some ⟨g, 0, none⟩) m c') m (L.flatMap c3) (by rfl) (HW.out.alloc _) ⟨wz.heap.size, 0, none⟩ 1 1 (c3 (x, y, t)) (by rfl) (by rfl) (news3' (Cell3.new wz x y t _)) (one3 _) (by decide) (by unfold maxLen; omega) (by omega) (by simp; omega) (wz.heap.size + 1) (by simp) ?_; intro g2 cp2 w5 h2 h3 h4 h5; obtain ⟨O5, v0, y0', y1'⟩ := hdr_keep HO.out h3 hgg)
            all_goals
              have hb5 : Below w1.heap.size w1 w5 := (Hb.out.alloc Hb.out.size _).drew.grown h3 (by have := Hb.out.size; simp; omega) (fun q hq => by simp [Value.ownBlock] at hq; omega)
              have hg2 : g2 ≠ g6 := by
                rcases h4 with h | h
                · simp [Value.ownBlock] at h; omega
                · omega
              have hm5 : Hid ((thN xs step (k + 1)).length = m + 1) := by show _ = _; rw [HT.out, List.length_append, HM.out]; rfl
              clear HW h3 h4
              go_wp2
              refine ⟨⟨k + 1, m + 1, cp2, g2, by omega, by omega, by go_num, hb5.setCell (p := ⟨g6, 0, none⟩) (show w1.heap.size ≤ g6 by omega) _, O5.set1 _, ?_, hm5, hg2⟩, by simp [intOf]; omega⟩
              rw [HT.out, flat_snoc]; exact ownsRow_setCell_other h2 (fun h9 => by simp [Value.ownBlock] at h9; exact hg2 h9) _
          · have z2 : ((k : Int) == (n : Int) - 1) = false := by simp; omega
            obtain ⟨ld, hld⟩ : ∃ ld, lenD (px, py, pt) (x, y, t) = ld := ⟨_, rfl⟩
            have HK := Lib.hid (thK_mid (step := step) (show k ≠ 0 by omega) (by rw [hl.out]; exact hkl) HM.out hpp.out hx.out)
            have HD := Lib.hid hld
            rw [hld] at HK
            clear hld
            by_cases hge : step * 16 ≤ ld
            · go_wp2_with fail
              go_region_held3 (fun w' => (∀ b o, b < wa.heap.size → w'.cell? ⟨b, o, none⟩ = wa.cell? ⟨b, o, none⟩) ∧ Below wa.heap.size wa w') (first | exact sk (Below.refl _ _).drew | (go_split_ands; exact sk (below_app ‹_› hbw3 (Below.size ‹_›)))) (first | (go_at_call 65; with_reducible refine (l05Length_any px py pt x y t _ VP.out VX.out).mono ?_; rw [HD.out]; rintro e w3 ⟨rfl, hbw3⟩))
              go_split_ands
              have hD : Below wa.heap.size wa w3 := ‹Below wa.heap.size wa w3›
              clear hbw3
              rename_i hAll _
              clear hAll
              replace O1 := O1.on hD
              replace HW := Lib.hid (own_below HW.out hD)
              replace hb := below_on hD hb
              replace e0 := cell_on2 hD e0
              replace q0 := cell_on2 hD q0
              replace q1 := cell_on2 hD q1
              replace q2 := cell_on2 hD q2
              replace hbl := Nat.lt_of_lt_of_le hbl hD.size
              replace zk2 := Nat.lt_of_lt_of_le zk2 hD.size
              clear hD
              generalize w3 = wz at *
              have HT := Lib.hid (thN_yes HL.out hx.out (by rw [HK.out]; exact decide_eq_true hge))
              clear p0 p1 p2 P0
              have u0 := O1.cell 0
              simp only [List.getElem?_toArray, List.getElem?_cons_zero] at u0
              have zo := O1.lt
              have hsz4 := hb.size
              have HO := Lib.hid O1
              have Hb := Lib.hid hb
              have hmm : m ≤ 1048576 := by omega
              clear O1 hb
              go_wp2_with fail
              go_region_law (refine step_append_lies _ (by rfl) (.tmp 56) (.tmp 62) 26 (by rfl) w1.heap.size 77 i0 _ 3 24 Try.underlying26 hi hz0 hz1 hz2 rfl (by decide) (.slice (some ⟨g, 0, none⟩) m c') m (L.flatMap c3) (by rfl) (HW.out.alloc _) ⟨wz.heap.size, 0, none⟩ 1 1 (c3 (x, y, t)) (by rfl) (by rfl) (news3' (Cell3.new wz x y t _)) (one3 _) (by decide) (by unfold maxLen; omega) (by omega) (by simp; omega) (wz.heap.size + 1) (by simp) ?_; intro g2 cp2 w5 h2 h3 h4 h5; obtain ⟨O5, v0, y0', y1'⟩ := hdr_keep HO.out h3 hgg)
              all_goals
                have hb5 : Below w1.heap.size w1 w5 := (Hb.out.alloc Hb.out.size _).drew.grown h3 (by have := Hb.out.size; simp; omega) (fun q hq => by simp [Value.ownBlock] at hq; omega)
                have hg2 : g2 ≠ g6 := by
                  rcases h4 with h | h
                  · simp [Value.ownBlock] at h; omega
                  · omega
                have hm5 : Hid ((thN xs step (k + 1)).length = m + 1) := by show _ = _; rw [HT.out, List.length_append, HM.out]; rfl
                clear HW h3 h4
                go_wp2
                refine ⟨⟨k + 1, m + 1, cp2, g2, by omega, by omega, by go_num, hb5.setCell (p := ⟨g6, 0, none⟩) (show w1.heap.size ≤ g6 by omega) _, O5.set1 _, ?_, hm5, hg2⟩, by simp [intOf]; omega⟩
                rw [HT.out, flat_snoc]; exact ownsRow_setCell_other h2 (fun h9 => by simp [Value.ownBlock] at h9; exact hg2 h9) _
            · have hlt9 : ld < step * 16 := by omega
              go_wp2_with fail
              go_region_held3 (fun w' => (∀ b o, b < wa.heap.size → w'.cell? ⟨b, o, none⟩ = wa.cell? ⟨b, o, none⟩) ∧ Below wa.heap.size wa w') (first | exact sk (Below.refl _ _).drew | (go_split_ands; exact sk (below_app ‹_› hbw3 (Below.size ‹_›)))) (first | (go_at_call 65; with_reducible refine (l05Length_any px py pt x y t _ VP.out VX.out).mono ?_; rw [HD.out]; rintro e w3 ⟨rfl, hbw3⟩))
              go_split_ands
              have hD : Below wa.heap.size wa w3 := ‹Below wa.heap.size wa w3›
              replace O1 := O1.on hD
              replace HW := Lib.hid (own_below HW.out hD)
              replace hb := below_on hD hb
              have HT := Lib.hid (thN_no HL.out (show thK xs step L k = false by rw [HK.out]; exact decide_eq_false (by omega)))
              clear hD
              go_wp2
              refine ⟨⟨k + 1, m, c', g, by omega, by omega, by go_num, hb, O1, by rw [HT.out]; exact HW.out, ?_, hgg⟩, by simp [intOf]; omega⟩
              show (thN xs step (k + 1)).length = m; rw [HT.out, HM.out]
        · have hkn : k = n := by omega
          subst hkn
          replace R0 := R0.on hb
          obtain ⟨j0, f0, zr⟩ : wr.cell? ⟨w.heap.size + 1, 0, none⟩ = some (.slice none 0 0) ∧ wr.frozen? ⟨w.heap.size + 1, 0, none⟩ = false ∧ w.heap.size + 1 < wr.heap.size := ⟨R0.cel.cell, R0.frozen 0, R0.lt⟩
          have u0 := O1.cell 0
          simp only [List.getElem?_toArray, List.getElem?_cons_zero] at u0
          have HW := Lib.hid hw
          clear hw K1
          go_wp2
          rw [F.out.1, F.out.2, hl.out, HL.out]
          refine bodyPost_ret (v := .tuple #[.agg #[.slice (some ⟨g, 0, none⟩) m c'], .int .i64 0]) (by simp [results, Try.results21, go_sem, j0]) rfl ⟨some ⟨g, 0, none⟩, m, c', rfl, ?_, hm.out, by omega, (by repeat (first | exact Below.refl _ _ | assumption | refine Below.drew ?_ | refine below_drewN ?_ _ | refine Below.alloc ?_ (by first | omega | (simp <;> omega)) _ | refine Below.setCell ?_ (by first | omega | (simp <;> omega)) _))⟩
          exact own_mono (ownsRow_setCell_below HW.out (by simp only; omega) _) (by have := hB.size; omega)
end Go.Proofs.Ytpmaiklooapnfaa
