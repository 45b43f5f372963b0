/- Ink of the call's own: marks, and what holds them. -/
import Derived.Test.YtbfilhpgekgmbaaNk
import Derived.Test.YtbfilhpgekgmbaaFlPoint
namespace Go.Proofs.Ytbfilhpgekgmbaa
open Go.ChangeShapes Go.WideShapes Go.ChangeAt Go.RowKit
set_option linter.unusedVariables false
set_option linter.unusedSimpArgs false
set_option maxHeartbeats 400000 in
theorem markPointS_big (A : Option Addr) (n c base : Nat) (vs : List Value) (k : Int) (w : World) (ho : w.ownsRow base 54 3 (.slice A n c) n vs) (hn : n ≤ 1048576) (hk0 : 0 ≤ k) (hk1 : k ≤ 1099511627776) :
    Calls Try.prog 65 #[.slice A n c, .int .i64 k] w fun e w' => e = .returned (.int .i64 (k + 3 * n)) ∧ w'.ownsRow base 54 3 (.slice A n c) n ((marks3 k n).flatMap c3) ∧ w.grownBy w' (Value.slice A n c).ownBlock := by
  have hl := Lib.hid ho.1
  by_cases hpos : 0 < n
  · obtain ⟨g, rfl, hg0, hg1⟩ := own_at ho hpos
    go_enter Try.func65, Try.ntmps65
    go_wp2
    go_loopw [1, 5] (fun q i wr => ∃ j : Nat, j ≤ n ∧ i = .int .i64 j ∧ q = .int .i64 (k + 3 * j) ∧ w.grownBy wr (some g) ∧ wr.ownsRow base 54 3 (.slice (some ⟨g, 0, none⟩) n c) n ((marks3 k j).flatMap c3 ++ vs.drop (j * 3))) (fun _ i _ => n - (intOf i).toNat)
    case atStart => exact ⟨0, by omega, rfl, by simp, World.grownBy.refl _ _, by simpa [marks3] using ho⟩
    case round =>
      obtain ⟨j, hj, rfl, rfl, hgr, hw⟩ := hrel
      by_cases hlt : j < n
      · obtain ⟨⟨v0, e0⟩, f0⟩ := own_cell hw (j := j * 3) (by omega); obtain ⟨⟨v1, e1⟩, f1⟩ := own_cell hw (j := j * 3 + 1) (by omega); obtain ⟨⟨v2, e2⟩, f2⟩ := own_cell hw (j := j * 3 + 2) (by omega)
        clear ho
        go_wp2
        refine ⟨⟨j + 1, by omega, by go_num, by go_num, only_setCell (only_setCell (only_setCell hgr (.inl rfl) _) (.inl rfl) _) (.inl rfl) _, ?_⟩, by simp [intOf]; omega⟩
        exact mark3 hw hl.out hlt
      · have hjn : j = n := by omega
        subst hjn
        clear ho
        go_wp2
        go_ret
        refine ⟨rfl, ?_, hgr⟩
        rw [List.drop_eq_nil_of_le (by rw [hl.out]; omega), List.append_nil] at hw
        exact hw
  · have h0 : n = 0 := by omega
    subst h0
    have hv : vs = [] := List.eq_nil_of_length_eq_zero (by simpa using ho.1)
    subst hv
    go_enter Try.func65, Try.ntmps65
    go_wp2
    refine wp_loop_once ?_
    go_wp2
    go_ret
    exact ⟨ret_int (by simp), by simpa [marks3] using ho, World.grownBy.refl _ _⟩
set_option maxHeartbeats 400000 in
theorem heldPointS_big (A : Option Addr) (n c : Nat) (k : Int) (w : World) (hr : RdL c3 3 w w.heap.size A n c (marks3 k n)) (hn : n ≤ 1048576) (hk0 : 0 ≤ k) (hk1 : k ≤ 1099511627776) :
    Calls Try.prog 66 #[.slice A n c, .int .i64 k] w fun e w' => e = .returned (.int .i64 (k + 3 * n)) ∧ Below w.heap.size w w' := by
  go_enter Try.func66, Try.ntmps66
  go_wp2
  go_loop [1, 5] (fun q i => ∃ j : Nat, j ≤ n ∧ i = .int .i64 j ∧ q = .int .i64 (k + 3 * j)) (fun _ i => n - (intOf i).toNat)
  case atStart => exact ⟨0, by omega, rfl, by simp⟩
  case round =>
    obtain ⟨j, hj, rfl, rfl⟩ := hrel
    by_cases hlt : j < n
    · obtain ⟨b, off, x, y, d, rfl, hbl, hx, q0, q1, q2⟩ := hr.at3 hlt
      have hm := marks3_at hx.out
      simp only [Prod.mk.injEq] at hm
      obtain ⟨rfl, rfl, rfl⟩ := hm
      clear hr
      go_wp2
      refine ⟨⟨j + 1, by omega, by go_num, by go_num⟩, by simp [intOf]; omega⟩
    · have hjn : j = n := by omega
      subst hjn
      clear hr
      go_wp2
      go_ret
      exact ⟨rfl, Below.refl _ _⟩
theorem oneS9 {w : World} {b b' e e' s s' n n' c c' : Nat} {A : Option Addr} {a : Addr} {xs ys : List Value} (h : w.ownsRow b e s (.slice (some a) n c) n xs) (h' : w.ownsRow b' e' s' (.slice A n' c') n' ys) (hne : e ≠ e') : (Value.slice A n' c').ownBlock ≠ some a.block := by
  cases A with
  | none => simp [Value.ownBlock]
  | some a' =>
    simp only [Value.ownBlock, ne_eq, Option.some.injEq]
    intro h9
    rcases h.2 with ⟨h1, _⟩ | ⟨g, cap, cur, h1, _, h2, _⟩
    · cases h1
    · rcases h'.2 with ⟨k1, _⟩ | ⟨g', cap', cur', k1, _, k2, _⟩
      · cases k1
      · cases h1; cases k1
        simp only at h9
        subst h9
        rw [h2] at k2
        simp only [Option.some.injEq, Obj.cells.injEq] at k2
        exact hne k2.2.1
theorem NLo.chg {w w' : World} {base b0 top : Nat} {e : TypeId} {hs : List HS} {xs : List (List T3)} (h : NLo w base e hs xs) (hc : Chg b0 top w w') (ht : top ≤ base) : NLo w' base e hs xs := fun k q x h1 h2 =>
  ⟨(h k q x h1 h2).1, own_chg (h k q x h1 h2).2 hc (fun g hg => by have := ((h k q x h1 h2).2.lt g hg).1; omega)⟩
theorem Blk.chgI {base top g : Nat} {w w' : World} {t : TypeId} {cs : Array Value} (h : Blk w g t cs) (hc : Chg base top w w') (hg : top ≤ g) : Blk w' g t cs := (hc.2 g hg h.lt).trans h
theorem Chg.allocI {base top : Nat} {w : World} (hB : base ≤ w.heap.size) (o : Obj) : Chg base top w (w.alloc o) := ⟨(Below.refl _ _).alloc hB _, fun b _ hb => Below.heap_alloc w o b hb⟩
def lens3 (xs : List (List T3)) : List Nat := xs.map List.length
theorem lens3_len (xs : List (List T3)) : (lens3 xs).length = xs.length := by simp [lens3]
theorem lens3_at {xs : List (List T3)} {k : Nat} {x : List T3} (h : xs[k]? = some x) : (lens3 xs)[k]? = some x.length := by simp [lens3, h]
theorem lens3_sum {xs : List (List T3)} {N : Nat} (h : totL xs ≤ N) : xs.length + (lens3 xs).sum ≤ N := h
def kI (k : Int) (ls : List Nat) (r : Nat) : Int := k + 3 * ((ls.take r).sum : Nat)
theorem kI_zero (k : Int) (ls : List Nat) : kI k ls 0 = k := by simp [kI]
theorem kI_step {k : Int} {ls : List Nat} {r m : Nat} (h : ls[r]? = some m) : kI k ls (r + 1) = kI k ls r + 3 * m := by
  unfold kI; rw [take_succ_of h]; simp; omega
theorem sum_takeI (ls : List Nat) (r : Nat) : (ls.take r).sum ≤ ls.sum := by
  have h : (ls.take r ++ ls.drop r).sum = ls.sum := by rw [List.take_append_drop]
  rw [List.sum_append_nat] at h
  omega
theorem sum_atI {ls : List Nat} {r m : Nat} (h : ls[r]? = some m) : m ≤ ls.sum := by
  have h1 := sum_takeI ls (r + 1)
  rw [take_succ_of h, List.sum_append_nat] at h1
  simp at h1; omega
theorem kI_bd {xs : List (List T3)} {k : Int} {r : Nat} (h : totL xs ≤ 1048576) (hr : r ≤ xs.length) (h0 : 0 < k) (h1 : k ≤ 1048576) : 0 < kI k (lens3 xs) r ∧ kI k (lens3 xs) r ≤ 8388608 := by
  have h2 := sum_takeI (lens3 xs) r
  have h3 := lens3_sum h
  unfold kI; omega
def mkI (k : Int) (ls : List Nat) : List (List T3) := (List.range ls.length).map (fun r => marks3 (kI k ls r) (ls.getD r 0))
theorem mkI_len (k : Int) (ls : List Nat) : (mkI k ls).length = ls.length := by simp [mkI]
theorem mkI_at {k : Int} {ls : List Nat} {r : Nat} {x : List T3} (h : (mkI k ls)[r]? = some x) : ∃ m, ls[r]? = some m ∧ x = marks3 (kI k ls r) m := by
  have hr : r < ls.length := by have h2 := (List.getElem?_eq_some_iff.1 h).1; rwa [mkI_len] at h2
  refine ⟨ls[r], List.getElem?_eq_getElem hr, ?_⟩
  simp only [mkI, List.getElem?_map, List.getElem?_range hr, Option.map_some, Option.some.injEq] at h
  rw [← h, getD_of (List.getElem?_eq_getElem hr)]
/-- Ink of the call's own, whole. -/
structure NS (w : World) (base : Nat) (tT tF : TypeId) (A : Option Addr) (n c : Nat) (hs : List HS) (xs : List (List T3)) : Prop where
  o : w.ownsRow base tT 1 (.slice A n c) n (hs.flatMap cS)
  l : hs.length = n
  x : xs.length = n
  u : NLo w base tF hs xs
  d : NLd hs
section
variable {w w' : World} {base base' tT tF n c : Nat} {A : Option Addr} {hs : List HS} {xs : List (List T3)}
theorem NLd.nil : NLd [] := fun i j h h' a a' hij hi => by simp at hi
theorem NS.nil (w : World) (base tT tF : Nat) : NS w base tT tF none 0 0 [] [] := ⟨World.ownsRow_nil _ _ _ _, rfl, rfl, fun k h x h1 => by simp at h1, NLd.nil⟩
theorem NS.on (h : NS w base tT tF A n c hs xs) (hb : Below w.heap.size w w') : NS w' base tT tF A n c hs xs := ⟨own_below h.o hb, h.l, h.x, h.u.on hb, h.d⟩
theorem NS.mono (h : NS w base tT tF A n c hs xs) (hb : base' ≤ base) : NS w base' tT tF A n c hs xs := ⟨own_mono h.o hb, h.l, h.x, h.u.mono hb, h.d⟩
theorem NS.far (h : NS w base tT tF A n c hs xs) {p : Addr} (hp : p.block < base) (u : Value) : NS (w.setCell p u) base tT tF A n c hs xs :=
  ⟨ownsRow_setCell_below h.o hp u, h.l, h.x, fun k q x h1 h2 => ⟨(h.u k q x h1 h2).1, ownsRow_setCell_below (h.u k q x h1 h2).2 hp u⟩, h.d⟩
theorem NS.nl (h : NS w base tT tF A n c hs xs) : NL w w.heap.size A n c xs := nl_own h.o h.l h.x h.u
theorem NS.top (h : NS w base tT tF A n c hs xs) (i : Nat) (q : HS) (a : Addr) (hi : hs[i]? = some q) (ha : q.1 = some a) : base ≤ a.block ∧ a.block < w.heap.size := h.u.top (by rw [h.l, h.x]) i q a hi ha
/-- Behind an append of a stroke whose row is newer. -/
theorem NS.push {A' A3 : Option Addr} {c' n3 c3' B3 : Nat} {x : List T3} (h : NS w base tT tF A n c hs xs) (hne : tT ≠ tF) (o3 : w.ownsRow B3 tF 3 (.slice A3 n3 c3') n3 (x.flatMap c3)) (hx : x.length = n3) (hB : base ≤ B3)
    (hnew : ∀ (i : Nat) (q : HS) (a : Addr), hs[i]? = some q → q.1 = some a → a.block < B3)
    (hw : w'.ownsRow base tT 1 (.slice A' (n + 1) c') (n + 1) ((hs ++ [(A3, n3, c3')]).flatMap cS)) (hg : w.grownBy w' (Value.slice A n c).ownBlock) : NS w' base tT tF A' (n + 1) c' (hs ++ [(A3, n3, c3')]) (xs ++ [x]) := by
  have hk : ∀ {b9 s9 n9 c9 : Nat} {A9 : Option Addr} {vs : List Value}, w.ownsRow b9 tF s9 (.slice A9 n9 c9) n9 vs → w'.ownsRow b9 tF s9 (.slice A9 n9 c9) n9 vs := fun {b9 s9 n9 c9 A9 vs} h9 => h9.kept hg (by
    cases A with
    | none => cases A9 <;> simp [Value.ownBlock]
    | some a =>
      cases A9 with
      | none => exact .inl rfl
      | some a9 => exact .inr (oneS9 h.o h9 hne))
  refine ⟨hw, by simp [h.l], by simp [h.x], ?_, ?_⟩
  · intro j q y h1 h2
    by_cases hj : j < n
    · rw [List.getElem?_append_left (by rw [h.l]; exact hj)] at h1
      rw [List.getElem?_append_left (by rw [h.x]; exact hj)] at h2
      exact ⟨(h.u j q y h1 h2).1, hk (h.u j q y h1 h2).2⟩
    · have hjn : j = n := by have := (List.getElem?_eq_some_iff.1 h1).1; rw [List.length_append, h.l] at this; simp at this; omega
      subst hjn
      rw [List.getElem?_append_right (by rw [h.l]; exact Nat.le_refl _), h.l] at h1
      rw [List.getElem?_append_right (by rw [h.x]; exact Nat.le_refl _), h.x] at h2
      simp at h1 h2
      subst h1; subst h2
      exact ⟨hx, own_mono (hk o3) hB⟩
  · refine NLd.snoc h.d h.l (fun i q a a' hi ha ha' => ?_)
    have h1 := hnew i q a hi ha
    have h2 := (o3.lt a'.block (by simp only at ha'; rw [ha']; rfl)).1
    omega
end
set_option maxHeartbeats 1000000 in
theorem toInk_own (A : Option Addr) (n c : Nat) (xs : List (List T3)) (w : World) (hr : NL w w.heap.size A n c xs) (hn : totL xs ≤ 1048576) :
    Calls Try.prog 10 #[.agg #[.slice A n c]] w fun e w' => ∃ (g : Nat) (hs : List HS), e = .returned (.agg #[.slice (some ⟨g, 0, none⟩) n n]) ∧ w'.ownsRow w.heap.size 52 1 (.slice (some ⟨g, 0, none⟩) n n) n (hs.flatMap cS) ∧ hs.length = n ∧
      NLo w' w.heap.size 54 hs xs ∧ NLd hs ∧ Below w.heap.size w w' := by
  go_enter Try.func10, Try.ntmps10
  go_wp2_with fail
  have K0 : Blk (((w.alloc (.cells #[.slice A n c] 24)).alloc (.cells #[.slice none 0 0] 28)).alloc (.cells #[.slice none 0 0] 28)) (w.heap.size + 1) 28 #[.slice none 0 0] := by have h := (Blk.new (w.alloc (.cells #[.slice A n c] 24)) 28 #[.slice none 0 0]).alloc (.cells #[.slice none 0 0] 28); simpa using h
  have J0 : Blk (((w.alloc (.cells #[.slice A n c] 24)).alloc (.cells #[.slice none 0 0] 28)).alloc (.cells #[.slice none 0 0] 28)) (w.heap.size + 1 + 1) 28 #[.slice none 0 0] := by have h := Blk.new ((w.alloc (.cells #[.slice A n c] 24)).alloc (.cells #[.slice none 0 0] 28)) 28 #[.slice none 0 0]; simpa using h
  have hB : Below w.heap.size w (((w.alloc (.cells #[.slice A n c] 24)).alloc (.cells #[.slice none 0 0] 28)).alloc (.cells #[.slice none 0 0] 28)) := (by repeat (first | exact Below.refl _ _ | assumption | refine Below.drew ?_ | refine below_drewN ?_ _ | refine Below.alloc ?_ (by first | omega | (simp <;> omega)) _ | refine Below.setCell ?_ (by first | omega | (simp <;> omega)) _))
  generalize ((w.alloc (.cells #[.slice A n c] 24)).alloc (.cells #[.slice none 0 0] 28)).alloc (.cells #[.slice none 0 0] 28) = v at *
  have zv := J0.lt
  with_reducible refine (toStrokeS_own _ _ _ xs _ (hr.on hB) hn).mono ?_
  rintro e w1 ⟨hs, rfl, o1, hhl, ho, hd1, hb1⟩
  replace K0 := K0.on hb1
  replace J0 := J0.on hb1
  have hb := below_on hb1 hB
  have k0 := K0.cell 0
  simp only [List.getElem?_toArray, List.getElem?_cons_zero] at k0
  have j0 := J0.cell 0
  simp only [List.getElem?_toArray, List.getElem?_cons_zero] at j0
  have f0 := K0.frozen 0
  have g0 := J0.frozen 0
  have HO := Lib.hid ho
  clear ho
  go_wp2
  refine bodyPost_ret (v := .agg #[.slice (some ⟨v.heap.size, 0, none⟩) n n]) (by simp [results, Try.results10, go_sem, k0]) rfl ⟨v.heap.size, hs, rfl, ?_, hhl, ?_, hd1, (by repeat (first | exact Below.refl _ _ | assumption | refine Below.drew ?_ | refine below_drewN ?_ _ | refine Below.alloc ?_ (by first | omega | (simp <;> omega)) _ | refine Below.setCell ?_ (by first | omega | (simp <;> omega)) _))⟩
  · exact own_mono (ownsRow_setCell_below (ownsRow_setCell_below o1 (by simp only; omega) _) (by simp only; omega) _) (by omega)
  · exact fun k q x h1 h2 => ⟨(HO.out k q x h1 h2).1, own_mono (ownsRow_setCell_below (ownsRow_setCell_below (HO.out k q x h1 h2).2 (by simp only; omega) _) (by simp only; omega) _) (by omega)⟩
set_option maxHeartbeats 8000000 in
theorem markStrokeS_own (A : Option Addr) (n c b0 base top : Nat) (xs : List (List T3)) (hs : List HS) (k : Int) (w : World) (ho : w.ownsRow b0 52 1 (.slice A n c) n (hs.flatMap cS)) (hl : hs.length = n) (hx : xs.length = n) (hu : NLo w base 54 hs xs) (hd : NLd hs)
    (hin : ∀ (i : Nat) (q : HS) (a : Addr), hs[i]? = some q → q.1 = some a → base ≤ a.block ∧ a.block < top) (hA : ∀ a, A = some a → base ≤ a.block ∧ a.block < top) (hB : base ≤ w.heap.size) (ht : top ≤ w.heap.size) (hn : totL xs ≤ 1048576) (hk0 : 0 < k) (hk1 : k ≤ 1048576) :
    Calls Try.prog 39 #[.slice A n c, .int .i64 k] w fun e w' => ∃ hs' : List HS, e = .returned (.int .i64 (kI k (lens3 xs) n)) ∧ Chg base top w w' ∧ w'.ownsRow b0 52 1 (.slice A n c) n (hs'.flatMap cS) ∧ hs'.length = n ∧
      NLo w' base 54 hs' (mkI k (lens3 xs)) ∧ hs' = hs := by
  have HX := Lib.hid hx
  have hcap : n ≤ 1048576 := by have h : xs.length ≤ totL xs := by unfold totL; omega
                                rw [hx] at h; omega
  have HU := Lib.hid hu
  have HD := Lib.hid hd
  have HIN := Lib.hid hin
  have HO := Lib.hid ho
  have HL := Lib.hid hl
  have HN := Lib.hid hn
  clear hx hu hd hin hA ho hl hn
  go_enter Try.func39, Try.ntmps39
  go_wp2_with fail
  go_loopw [1, 5] (fun q i wr => ∃ (j : Nat), j ≤ n ∧ i = .int .i64 j ∧ q = .int .i64 (kI k (lens3 xs) j) ∧ Chg base top w wr ∧ Hid (wr.ownsRow b0 52 1 (.slice A n c) n (hs.flatMap cS)) ∧
      Hid (∀ (r : Nat) (h : HS) (x : List T3), hs[r]? = some h → xs[r]? = some x → x.length = h.2.1 ∧ (r < j → wr.ownsRow base 54 3 (.slice h.1 h.2.1 h.2.2) h.2.1 ((marks3 (kI k (lens3 xs) r) x.length).flatMap c3)) ∧ (j ≤ r → wr.ownsRow base 54 3 (.slice h.1 h.2.1 h.2.2) h.2.1 (x.flatMap c3)))) (fun _ i _ => n - (intOf i).toNat)
  case atStart => exact ⟨0, by omega, rfl, by rw [kI_zero], Chg.refl _ _ _, HO.out, fun r h x h1 h2 => ⟨(HU.out r h x h1 h2).1, fun h9 => absurd h9 (by omega), fun _ => (HU.out r h x h1 h2).2⟩⟩
  case round =>
    obtain ⟨j, hjn, rfl, rfl, hc, hO, hrest⟩ := hrel
    obtain ⟨kb0, kb1⟩ := kI_bd (r := j) HN.out (by rw [HX.out]; exact hjn) hk0 hk1
    by_cases hlt : j < n
    · obtain ⟨g, rfl, hg0, hg1⟩ := own_at hO.out (by omega)
      obtain ⟨q, hq⟩ : ∃ q, hs[j]? = some q := ⟨_, List.getElem?_eq_getElem (by rw [HL.out]; exact hlt)⟩
      obtain ⟨x, hxx⟩ : ∃ x, xs[j]? = some x := ⟨_, List.getElem?_eq_getElem (by rw [HX.out]; exact hlt)⟩
      have hstep := Lib.hid (kI_step (k := k) (lens3_at hxx))
      obtain ⟨r1, r2, r3⟩ := hrest.out j q x hq hxx
      have HRO := Lib.hid (r3 (Nat.le_refl _))
      have hlx : x.length ≤ 1048576 := by have h := totL_at hxx; have h2 := HN.out; omega
      have i1 : (j : Int) < (n : Int) := by omega
      have i2 : (0 : Int) ≤ (j : Int) := by omega
      have e1 : wr.cell? ⟨g, j, none⟩ = some (.slice q.1 q.2.1 q.2.2) := by
        have h9 := hO.out.cellAt (j * 1 + 0) (by omega)
        rw [flat_get cS_len hs j 0 q hq (by omega)] at h9
        simpa [cS] using h9
      have HQ := Lib.hid hq
      have HXX := Lib.hid hxx
      have hzc := hc.1.size
      obtain ⟨kj, hkj⟩ : ∃ kj, Hid (kI k (lens3 xs) j = kj) := ⟨_, rfl⟩
      rw [hkj.out] at kb0 kb1 hstep ⊢
      clear hq hxx r2 r3
      obtain ⟨qa, qn, qc⟩ := q
      simp only at e1 r1 HRO
      go_wp2_with fail
      with_reducible refine (markPointS_big _ _ _ _ _ _ _ HRO.out (by omega) (by omega) (by omega)).mono ?_
      rintro e w4 ⟨rfl, o4, hg4⟩
      have hc6 : Chg base top wr w4 := Chg.of_grown hg4 (by omega) (fun g9 hg9 => by
        cases hqa : qa with
        | none => rw [hqa] at hg9; simp [Value.ownBlock] at hg9
        | some a => rw [hqa] at hg9; simp [Value.ownBlock] at hg9; subst hg9; exact HIN.out j _ a HQ.out hqa)
      have HO4 := Lib.hid (hO.out.kept hg4 (.inr (fun h9 => oneS9 hO.out HRO.out (by decide) h9.symm)))
      have HKE := Lib.hid (show kj + 3 * (qn : Int) = kI k (lens3 xs) (j + 1) by rw [hstep.out, r1])
      have HO5 := Lib.hid o4
      clear o4
      go_wp2
      refine ⟨⟨j + 1, by omega, by go_num, by rw [HKE.out], hc.trans hc6, HO4.out, fun r h x' h1 h2 => ?_⟩, by simp [intOf]; omega⟩
      by_cases hjr : j = r
      · subst hjr
        rw [HQ.out] at h1; cases h1
        rw [HXX.out] at h2; cases h2
        refine ⟨r1, fun _ => ?_, fun h9 => absurd h9 (by omega)⟩
        rw [hkj.out, r1]
        exact HO5.out
      · obtain ⟨g1, g2, g3⟩ := hrest.out r h x' h1 h2
        have hne : (Value.slice h.1 h.2.1 h.2.2).ownBlock = none ∨ (Value.slice h.1 h.2.1 h.2.2).ownBlock ≠ (Value.slice qa qn qc).ownBlock := by
          cases hqa : qa with
          | none =>
            cases hh : h.1 with
            | none => exact .inl (by simp [Value.ownBlock])
            | some a => exact .inr (by simp [Value.ownBlock])
          | some a =>
            cases hh : h.1 with
            | none => exact .inl (by simp [Value.ownBlock])
            | some a' =>
              refine .inr ?_
              have hab : a'.block ≠ a.block := by
                rcases Nat.lt_or_gt_of_ne hjr with hlt9 | hlt9
                · exact (HD.out j r _ h a a' hlt9 HQ.out h1 hqa hh).symm
                · exact HD.out r j h _ a' a hlt9 h1 HQ.out hh hqa
              simp [Value.ownBlock]; exact hab
        exact ⟨g1, fun hr => (g2 (by omega)).kept hg4 hne, fun hr => (g3 (by omega)).kept hg4 hne⟩
    · have hjn' : j = n := by omega
      subst hjn'
      go_wp2
      go_ret
      refine ⟨hs, rfl, hc, hO.out, HL.out, fun r h x h1 h2 => ?_, rfl⟩
      obtain ⟨m, hm, rfl⟩ := mkI_at h2
      obtain ⟨y, hy, rfl⟩ : ∃ y, xs[r]? = some y ∧ y.length = m := by
        simp only [lens3, List.getElem?_map, Option.map_eq_some_iff] at hm
        exact hm
      have hrl : r < j := by have := (List.getElem?_eq_some_iff.1 h1).1; rw [HL.out] at this; exact this
      obtain ⟨g1, g2, _⟩ := hrest.out r h y h1 hy
      exact ⟨by rw [marks3_len]; exact g1, g2 hrl⟩
set_option maxHeartbeats 1000000 in
theorem markInk_own (A : Option Addr) (n c b0 base top : Nat) (xs : List (List T3)) (hs : List HS) (k : Int) (w : World) (ho : w.ownsRow b0 52 1 (.slice A n c) n (hs.flatMap cS)) (hl : hs.length = n) (hx : xs.length = n) (hu : NLo w base 54 hs xs) (hd : NLd hs)
    (hin : ∀ (i : Nat) (q : HS) (a : Addr), hs[i]? = some q → q.1 = some a → base ≤ a.block ∧ a.block < top) (hA : ∀ a, A = some a → base ≤ a.block ∧ a.block < top) (hB : base ≤ w.heap.size) (ht : top ≤ w.heap.size) (hn : totL xs ≤ 1048576) (hk0 : 0 < k) (hk1 : k ≤ 1048576) :
    Calls Try.prog 13 #[.agg #[.slice A n c], .int .i64 k] w fun e w' => ∃ hs' : List HS, e = .returned (.int .i64 (kI k (lens3 xs) n)) ∧ Chg base top w w' ∧ w'.ownsRow b0 52 1 (.slice A n c) n (hs'.flatMap cS) ∧ hs'.length = n ∧
      NLo w' base 54 hs' (mkI k (lens3 xs)) ∧ hs' = hs := by
  have hc0 : Chg base top w (w.alloc (.cells #[.slice A n c] 28)) := Chg.allocI hB _
  have hz1 : base ≤ (w.alloc (.cells #[.slice A n c] 28)).heap.size := by simp; omega
  have hz2 : top ≤ (w.alloc (.cells #[.slice A n c] 28)).heap.size := by simp; omega
  have HU := Lib.hid hu
  have HD := Lib.hid hd
  have HIN := Lib.hid hin
  have HAA := Lib.hid hA
  have HX := Lib.hid hx
  have HL := Lib.hid hl
  clear hu hd hin hA hx hl
  go_enter Try.func13, Try.ntmps13
  go_wp2_with fail
  with_reducible refine (markStrokeS_own A n c b0 base top xs hs k _ (ho.alloc _) HL.out HX.out (HU.out.on ((Below.refl _ _).alloc (Nat.le_refl _) _)) HD.out HIN.out HAA.out hz1 hz2 hn hk0 hk1).mono ?_
  rintro e w1 ⟨hs', rfl, hc, ho1, hl1, hu1, hm1⟩
  have HU1 := Lib.hid hu1
  have HL1 := Lib.hid hl1
  have HM1 := Lib.hid hm1
  have HO1 := Lib.hid ho1
  clear hu1 hl1 hm1 ho1
  go_wp2
  go_ret
  exact ⟨hs', rfl, hc0.trans hc, HO1.out, HL1.out, HU1.out, HM1.out⟩
set_option maxHeartbeats 4000000 in
theorem heldStrokeS_any (A : Option Addr) (n c : Nat) (ls : List Nat) (k : Int) (w : World) (hr : NL w w.heap.size A n c (mkI k ls)) (hn : n + ls.sum ≤ 1048576) (hk0 : 0 < k) (hk1 : k ≤ 1048576) :
    Calls Try.prog 40 #[.slice A n c, .int .i64 k] w fun e w' => e = .returned (.int .i64 (kI k ls n)) ∧ Below w.heap.size w w' := by
  have hl := Lib.hid (show ls.length = n by rw [← mkI_len k ls]; exact hr.len)
  have HR := Lib.hid hr
  clear hr
  go_enter Try.func40, Try.ntmps40
  go_wp2_with fail
  go_loopw [1, 5] (fun q i wr => ∃ j : Nat, j ≤ n ∧ i = .int .i64 j ∧ q = .int .i64 (kI k ls j) ∧ Below w.heap.size w wr) (fun _ i _ => n - (intOf i).toNat)
  case atStart => exact ⟨0, by omega, rfl, by rw [kI_zero], Below.refl _ _⟩
  case round =>
    obtain ⟨j, hj, rfl, rfl, hb⟩ := hrel
    have kb : 0 < kI k ls j ∧ kI k ls j ≤ 8388608 := by have h3 := sum_takeI ls j; unfold kI; omega
    obtain ⟨kb0, kb1⟩ := kb
    by_cases hlt : j < n
    · obtain ⟨b, off, A', n', c', x, rfl, hbl, hx, q0, hx3⟩ := (HR.out.on hb).at_ hlt
      obtain ⟨m, hm, hxm⟩ := mkI_at hx.out
      subst hxm
      have hmn := hx3.len
      rw [marks3_len] at hmn
      subst hmn
      have hstep := Lib.hid (kI_step (k := k) hm)
      have hmm : m ≤ ls.sum := sum_atI hm
      obtain ⟨kj, hkj⟩ : ∃ kj, Hid (kI k ls j = kj) := ⟨_, rfl⟩
      rw [hkj.out] at kb0 kb1 hstep hx3 ⊢
      have i1 : (j : Int) < (n : Int) := by omega
      have i2 : (0 : Int) ≤ (j : Int) := by omega
      have hz := hb.size
      have HX3 := Lib.hid hx3
      clear hm hx3
      go_wp2_with fail
      with_reducible refine (heldPointS_big _ _ _ _ _ HX3.out (by omega) (by omega) (by omega)).mono ?_
      rintro e w3 ⟨rfl, hbw3⟩
      have hb4 := below_on hbw3 hb
      have HKE := Lib.hid (show kj + 3 * (m : Int) = kI k ls (j + 1) by rw [hstep.out])
      have o3 : ¬ kj + 3 * (m : Int) < 0 := by omega
      go_wp2
      exact ⟨⟨j + 1, by omega, by go_num, by rw [HKE.out], hb4⟩, by simp [intOf]; omega⟩
    · have hjn : j = n := by omega
      subst hjn
      go_wp2
      go_ret
      exact ⟨rfl, hb⟩
set_option maxHeartbeats 1000000 in
theorem heldInk_any (A : Option Addr) (n c : Nat) (ls : List Nat) (k : Int) (w : World) (hr : NL w w.heap.size A n c (mkI k ls)) (hn : n + ls.sum ≤ 1048576) (hk0 : 0 < k) (hk1 : k ≤ 1048576) :
    Calls Try.prog 14 #[.agg #[.slice A n c], .int .i64 k] w fun e w' => e = .returned (.int .i64 (kI k ls n)) ∧ Below w.heap.size w w' := by
  have hB : Below w.heap.size w (w.alloc (.cells #[.slice A n c] 28)) := (by repeat (first | exact Below.refl _ _ | assumption | refine Below.drew ?_ | refine below_drewN ?_ _ | refine Below.alloc ?_ (by first | omega | (simp <;> omega)) _ | refine Below.setCell ?_ (by first | omega | (simp <;> omega)) _))
  have h0 : ¬ kI k ls n < 0 := by have h3 := sum_takeI ls n; unfold kI; omega
  have HR := Lib.hid hr
  clear hr
  go_enter Try.func14, Try.ntmps14
  go_wp2_with fail
  with_reducible refine (heldStrokeS_any A n c ls k _ (HR.out.on hB) hn hk0 hk1).mono ?_
  rintro e w1 ⟨rfl, hb1⟩
  go_wp2
  go_ret
  exact ⟨rfl, below_on hb1 hB⟩
end Go.Proofs.Ytbfilhpgekgmbaa
