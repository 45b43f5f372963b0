/- The vote's parts: polls, slices.IndexFunc, cmp.Or, slices.MinFunc over polls. -/
import Derived.Test.YtkldejbhhbgefaaVa
import Derived.Test.YtkldejbhhbgefaaLu
import Derived.BigRegion
import Derived.Deep.RegionHeld3
namespace Go.Proofs.Ytkldejbhhbgefaa
open Go.ChangeShapes Go.WideShapes Go.ChangeAt Go.RowKit
set_option linter.unusedVariables false
set_option linter.unusedSimpArgs false
def cV (p : V3) : List Value := [.string (b8 p.1), .int .i64 p.2.1, .int .i64 p.2.2]
theorem cV_len (p : V3) : (cV p).length = 3 := rfl
theorem oneV (p : V3) : ∀ u ∈ cV p, u.oneCell' = true := by intro u hu; simp [cV] at hu; rcases hu with rfl | rfl | rfl <;> rfl
theorem Try.infoPoll : (Try.prog.info? 106).map (fun i => (i.zero, i.size, i.bytes)) = some (some (.agg #[.string ⟨#[]⟩, .int .i64 0, .int .i64 0]), 3, 32) := by kernel_rfl
theorem Try.underlying103 : Try.prog.underlying 103 = some (.slice 106) := by kernel_rfl
theorem RdL.atV {w : World} {B n c : Nat} {A : Option Addr} {xs : List V3} (h : RdL cV 3 w B A n c xs) {k : Nat} (hk : k < n) :
    ∃ b off s x y, A = some ⟨b, off, none⟩ ∧ b < B ∧ Hid (xs[k]? = some (s, x, y)) ∧ w.cell? ⟨b, off + k * 3, none⟩ = some (.string (b8 s)) ∧ w.cell? ⟨b, off + k * 3 + 1, none⟩ = some (.int .i64 x) ∧ w.cell? ⟨b, off + k * 3 + 2, none⟩ = some (.int .i64 y) := by
  obtain ⟨b, off, x, e, hb, hx, hc⟩ := RdL.at_ (f := cV) cV_len h hk
  exact ⟨b, off, x.1, x.2.1, x.2.2, e, hb, hx, hc 0 _ (by omega) rfl, hc 1 _ (by omega) rfl, hc 2 _ (by omega) rfl⟩
theorem s8_eq {a b : SL8} (h : a = b) : ((b8 a).toList == (b8 b).toList) = true := by rw [h]; simp
theorem s8_ne {a b : SL8} (h : ¬ a = b) : ((b8 a).toList == (b8 b).toList) = false := by rw [b8_list, b8_list]; simpa using h
theorem s8_lt {a b : SL8} (h : a < b) : Op.bytesLess (b8 a).toList (b8 b).toList = true := by rw [b8_list, b8_list]; exact less_yes h
theorem s8_nlt {a b : SL8} (h : ¬ a < b) : Op.bytesLess (b8 a).toList (b8 b).toList = false := by rw [b8_list, b8_list]; exact less_no h
theorem vote1_any (s t : SL8) (a b : Int) (gl : Nat) (w : World) (h : Cel w gl 0 (.string (b8 t))) :
    Calls Try.prog 70 #[.agg #[.string (b8 s), .int .i64 a, .int .i64 b], .pointer (some ⟨gl, 0, none⟩)] w fun e w' => e = .returned (.bool (decide (s = t))) ∧ Below w.heap.size w w' := by
  have h0 := h.cell
  have hl := h.lt
  by_cases hst : s = t
  · have hd : Hid (decide (s = t) = true) := decide_eq_true hst
    have c1 := s8_eq hst
    clear hst
    go_enter Try.func70, Try.ntmps70
    go_wp2
    go_ret
    exact ⟨ret_bool hd.out.symm, (by repeat (first | exact Below.refl _ _ | assumption | refine Below.drew ?_ | refine below_drewN ?_ _ | refine Below.alloc ?_ (by first | omega | (simp <;> omega)) _ | refine Below.setCell ?_ (by first | omega | (simp <;> omega)) _))⟩
  · have hd : Hid (decide (s = t) = false) := decide_eq_false hst
    have c1 := s8_ne hst
    clear hst
    go_enter Try.func70, Try.ntmps70
    go_wp2
    go_ret
    exact ⟨ret_bool hd.out.symm, (by repeat (first | exact Below.refl _ _ | assumption | refine Below.drew ?_ | refine below_drewN ?_ _ | refine Below.alloc ?_ (by first | omega | (simp <;> omega)) _ | refine Below.setCell ?_ (by first | omega | (simp <;> omega)) _))⟩
theorem indexFunc_any (A : Option Addr) (n c gl : Nat) (t : SL8) (ps : List V3) (w : World) (hr : RdL cV 3 w w.heap.size A n c ps) (h : Cel w gl 0 (.string (b8 t))) (hn : n ≤ 1000) :
    Calls Try.prog 69 #[.slice A n c, .func (.func 70) #[] #[.pointer (some ⟨gl, 0, none⟩)]] w fun e w' => Below w.heap.size w w' ∧ ((∃ (i : Nat) (q : V3), ps[i]? = some q ∧ q.1 = t ∧ e = .returned (.int .i64 (i : Int))) ∨ ((∀ q ∈ ps, q.1 ≠ t) ∧ e = .returned (.int .i64 (-1)))) := by
  have HR := Lib.hid hr
  have HL := Lib.hid hr.len
  clear hr
  go_enter Try.func69, Try.ntmps69
  go_wp2_with fail
  go_loopw [8] (fun i wr => ∃ k : Nat, k ≤ n ∧ i = .int .i64 k ∧ Below w.heap.size w wr ∧ Hid (∀ (j : Nat) (q : V3), j < k → ps[j]? = some q → q.1 ≠ t)) (fun i _ => n - (intOf i).toNat)
  case atStart => exact ⟨0, by omega, rfl, Below.refl _ _, fun j q hj => by omega⟩
  case round =>
    obtain ⟨k, hk, rfl, hb, hno⟩ := hrel
    by_cases hlt : k < n
    · obtain ⟨b, off, s, x, y, rfl, hbl, hx, q0, q1, q2⟩ := (HR.out.on hb).atV hlt
      have hC := h.on hb
      have i1 : (k : Int) < (n : Int) := by omega
      have i2 : (0 : Int) ≤ (k : Int) := by omega
      go_wp2_with fail
      with_reducible refine (vote1_any s t x y gl _ hC).mono ?_
      rintro e w2 ⟨rfl, hb2⟩
      have hb3 := below_on hb2 hb
      clear q0 q1 q2 hC
      by_cases hst : s = t
      · rw [decide_eq_true hst]
        go_wp2
        go_ret
        exact ⟨hb3, .inl ⟨k, _, hx.out, hst, rfl⟩⟩
      · rw [decide_eq_false hst]
        have hno2 : Hid (∀ (j : Nat) (q : V3), j < k + 1 → ps[j]? = some q → q.1 ≠ t) := by
          intro j q hj hq
          rcases Nat.lt_or_ge j k with h1 | h1
          · exact hno.out j q h1 hq
          · rw [show j = k by omega, hx.out] at hq; cases hq; exact hst
        clear hst hno
        go_wp2
        exact ⟨⟨k + 1, by omega, by go_num, hb3, hno2.out⟩, by simp [intOf]; omega⟩
    · have hall : Hid (∀ q ∈ ps, q.1 ≠ t) := by
        intro q hq
        obtain ⟨j, hj⟩ := List.getElem?_of_mem hq
        have := (List.getElem?_eq_some_iff.1 hj).1
        exact hno.out j q (by rw [HL.out] at this; omega) hj
      clear hno
      go_wp2
      go_ret
      exact ⟨hb, .inr ⟨hall.out, rfl⟩⟩
def cmpS (a b : SL8) : Int := if a < b then -1 else if b < a then 1 else 0
def orV (a b c : Int) : Int := if a = 0 then (if b = 0 then c else b) else a
theorem isNaNS_any (s : ByteArray) (w : World) : Calls Try.prog 100 #[.string s] w fun e w' => e = .returned (.bool false) ∧ w = w' := by
  go_enter Try.func100, Try.ntmps100
  go_wp2
  go_ret
  exact ⟨ret_bool (by simp), rfl⟩
theorem compareS_any (x y : SL8) (w : World) : Calls Try.prog 74 #[.string (b8 x), .string (b8 y)] w fun e w' => e = .returned (.int .i64 (cmpS x y)) ∧ w = w' := by
  rcases s8_tri x y with h1 | h1 | h1
  · have HV : Hid (cmpS x y = -1) := by show _ = _; unfold cmpS; rw [if_pos h1]
    have c1 := s8_lt h1
    clear h1
    go_enter Try.func74, Try.ntmps74
    go_wp2_with (first | (go_at_call 100; with_reducible refine (isNaNS_any _ _).mono ?_; rintro e w' ⟨rfl, rfl⟩))
    go_ret
    exact ⟨ret_int HV.out.symm, rfl⟩
  · have h2 : ¬ x < y := by rw [h1]; exact s8_irrefl _
    have h3 : ¬ y < x := by rw [h1]; exact s8_irrefl _
    have HV : Hid (cmpS x y = 0) := by show _ = _; unfold cmpS; rw [if_neg h2, if_neg h3]
    have c1 := s8_nlt h2
    have c2 := s8_eq h1
    clear h1 h2 h3
    go_enter Try.func74, Try.ntmps74
    go_wp2_with (first | (go_at_call 100; with_reducible refine (isNaNS_any _ _).mono ?_; rintro e w' ⟨rfl, rfl⟩))
    go_ret
    exact ⟨ret_int HV.out.symm, rfl⟩
  · have h2 : ¬ x < y := fun h => s8_irrefl _ (s8_trans h h1)
    have HV : Hid (cmpS x y = 1) := by show _ = _; unfold cmpS; rw [if_neg h2, if_pos h1]
    have c1 := s8_nlt h2
    have c2 := s8_ne (show ¬ x = y from fun e => s8_irrefl _ (e ▸ h1))
    clear h1 h2
    go_enter Try.func74, Try.ntmps74
    go_wp2_with (first | (go_at_call 100; with_reducible refine (isNaNS_any _ _).mono ?_; rintro e w' ⟨rfl, rfl⟩))
    go_ret
    exact ⟨ret_int HV.out.symm, rfl⟩
theorem or_any (g : Nat) (a b c : Int) (t : TypeId) (w : World) (h : Blk w g t #[.int .i64 a, .int .i64 b, .int .i64 c]) :
    Calls Try.prog 73 #[.slice (some ⟨g, 0, none⟩) 3 3] w fun e w' => e = .returned (.int .i64 (orV a b c)) ∧ w = w' := by
  have hl := h.lt
  have q0 := h.cell 0
  have q1 := h.cell 1
  have q2 := h.cell 2
  simp only [List.getElem?_toArray, List.getElem?_cons_succ, List.getElem?_cons_zero] at q0 q1 q2
  clear h
  go_enter Try.func73, Try.ntmps73
  go_wp2
  obtain ⟨w0, rfl⟩ : ∃ W, W = w := ⟨_, rfl⟩
  go_loopw [8] (fun i wr => wr = w0 ∧ ((i = .int .i64 0) ∨ (i = .int .i64 1 ∧ a = 0) ∨ (i = .int .i64 2 ∧ a = 0 ∧ b = 0) ∨ (i = .int .i64 3 ∧ a = 0 ∧ b = 0 ∧ c = 0))) (fun i _ => 3 - (intOf i).toNat)
  case atStart => exact ⟨rfl, .inl rfl⟩
  case round =>
    obtain ⟨rfl, hI⟩ := hrel
    rcases hI with rfl | ⟨rfl, rfl⟩ | ⟨rfl, rfl, rfl⟩ | ⟨rfl, rfl, rfl, rfl⟩
    · by_cases hv : a = 0
      · subst hv
        go_wp2
        exact ⟨⟨by trivial, .inr (.inl ⟨by go_num, by trivial⟩)⟩, by simp [intOf]⟩
      · have HV : Hid (orV a b c = a) := by show _ = _; unfold orV; rw [if_neg hv]
        have hvb : (a == 0) = false := by simpa using hv
        go_wp2
        go_ret
        exact ⟨ret_int HV.out.symm, rfl⟩
    · by_cases hv : b = 0
      · subst hv
        go_wp2
        exact ⟨⟨by trivial, .inr (.inr (.inl ⟨by go_num, by trivial, by trivial⟩))⟩, by simp [intOf]⟩
      · have HV : Hid (orV 0 b c = b) := by show _ = _; unfold orV; rw [if_pos rfl, if_neg hv]
        have hvb : (b == 0) = false := by simpa using hv
        go_wp2
        go_ret
        exact ⟨ret_int HV.out.symm, rfl⟩
    · by_cases hv : c = 0
      · subst hv
        go_wp2
        exact ⟨⟨by trivial, .inr (.inr (.inr ⟨by go_num, by trivial, by trivial, by trivial⟩))⟩, by simp [intOf]⟩
      · have HV : Hid (orV 0 0 c = c) := by show _ = _; unfold orV; rw [if_pos rfl, if_pos rfl]
        have hvb : (c == 0) = false := by simpa using hv
        go_wp2
        go_ret
        exact ⟨ret_int HV.out.symm, rfl⟩
    · go_wp2
      go_ret
      exact ⟨rfl, rfl⟩
def v2V (p q : V3) : Int := orV (cmpV q.2.1 p.2.1) (cmpV p.2.2 q.2.2) (cmpS p.1 q.1)
theorem cmpV_cases (x y : Int) : (x < y ∧ cmpV x y = -1) ∨ (x = y ∧ cmpV x y = 0) ∨ (y < x ∧ cmpV x y = 1) := by
  unfold cmpV
  rcases Int.lt_trichotomy x y with h | h | h
  · exact .inl ⟨h, by rw [if_pos h]⟩
  · exact .inr (.inl ⟨h, by rw [if_neg (by omega), if_neg (by omega)]⟩)
  · exact .inr (.inr ⟨h, by rw [if_neg (by omega), if_pos h]⟩)
theorem cmpS_cases (x y : SL8) : (x < y ∧ cmpS x y = -1) ∨ (¬ x < y ∧ 0 ≤ cmpS x y) := by
  unfold cmpS
  by_cases h : x < y
  · exact .inl ⟨h, by rw [if_pos h]⟩
  · refine .inr ⟨h, ?_⟩
    rw [if_neg h]; split <;> decide
theorem v2_lt (p q : V3) : decide (v2V p q < 0) = decide (lsV p q) := by
  apply decide_eq_decide.2
  unfold v2V lsV
  rcases cmpV_cases q.2.1 p.2.1 with ⟨h, e⟩ | ⟨h, e⟩ | ⟨h, e⟩ <;> rw [e]
  · exact ⟨fun _ => .inl h, fun _ => by unfold orV; rw [if_neg (by decide)]; decide⟩
  · rcases cmpV_cases p.2.2 q.2.2 with ⟨h2, e2⟩ | ⟨h2, e2⟩ | ⟨h2, e2⟩ <;> rw [e2]
    · exact ⟨fun _ => .inr ⟨h.symm, .inl h2⟩, fun _ => by unfold orV; rw [if_pos rfl, if_neg (by decide)]; decide⟩
    · rcases cmpS_cases p.1 q.1 with ⟨h3, e3⟩ | ⟨h3, e3⟩
      · rw [e3]; exact ⟨fun _ => .inr ⟨h.symm, .inr ⟨h2, h3⟩⟩, fun _ => by unfold orV; decide⟩
      · refine ⟨fun hh => ?_, fun hh => ?_⟩
        · unfold orV at hh; simp at hh; omega
        · rcases hh with hh | ⟨_, hh | ⟨_, hh⟩⟩
          · omega
          · omega
          · exact absurd hh h3
    · refine ⟨fun hh => ?_, fun hh => ?_⟩
      · unfold orV at hh; simp at hh
      · rcases hh with hh | ⟨_, hh | ⟨hh, _⟩⟩ <;> omega
  · refine ⟨fun hh => ?_, fun hh => ?_⟩
    · unfold orV at hh; simp at hh
    · rcases hh with hh | ⟨hh, _⟩ <;> omega
set_option maxHeartbeats 4000000 in
theorem vote2_any (s t : SL8) (a b c d : Int) (w : World) :
    Calls Try.prog 72 #[.agg #[.string (b8 s), .int .i64 a, .int .i64 b], .agg #[.string (b8 t), .int .i64 c, .int .i64 d]] w fun e w' => e = .returned (.int .i64 (v2V (s, a, b) (t, c, d))) ∧ Below w.heap.size w w' := by
  go_enter Try.func72, Try.ntmps72
  go_wp2_with fail
  have K0 : Blk ((w.alloc (.cells #[.string (b8 s), .int .i64 a, .int .i64 b] 106)).alloc (.cells #[.string (b8 t), .int .i64 c, .int .i64 d] 106)) (w.heap.size) 106 #[.string (b8 s), .int .i64 a, .int .i64 b] := by have hk := (Blk.new w 106 #[.string (b8 s), .int .i64 a, .int .i64 b]).alloc (.cells #[.string (b8 t), .int .i64 c, .int .i64 d] 106); simpa using hk
  have K1 : Blk ((w.alloc (.cells #[.string (b8 s), .int .i64 a, .int .i64 b] 106)).alloc (.cells #[.string (b8 t), .int .i64 c, .int .i64 d] 106)) (w.heap.size + 1) 106 #[.string (b8 t), .int .i64 c, .int .i64 d] := by have hk := Blk.new (w.alloc (.cells #[.string (b8 s), .int .i64 a, .int .i64 b] 106)) 106 #[.string (b8 t), .int .i64 c, .int .i64 d]; simpa using hk
  have hbu : Below w.heap.size w ((w.alloc (.cells #[.string (b8 s), .int .i64 a, .int .i64 b] 106)).alloc (.cells #[.string (b8 t), .int .i64 c, .int .i64 d] 106)) := (by repeat (first | exact Below.refl _ _ | assumption | refine Below.drew ?_ | refine below_drewN ?_ _ | refine Below.alloc ?_ (by first | omega | (simp <;> omega)) _ | refine Below.setCell ?_ (by first | omega | (simp <;> omega)) _))
  generalize ((w.alloc (.cells #[.string (b8 s), .int .i64 a, .int .i64 b] 106)).alloc (.cells #[.string (b8 t), .int .i64 c, .int .i64 d] 106)) = u at *
  have p0 := K0.cell 0
  have p1 := K0.cell 1
  have p2 := K0.cell 2
  simp only [List.getElem?_toArray, List.getElem?_cons_succ, List.getElem?_cons_zero] at p0 p1 p2
  have q0 := K1.cell 0
  have q1 := K1.cell 1
  have q2 := K1.cell 2
  simp only [List.getElem?_toArray, List.getElem?_cons_succ, List.getElem?_cons_zero] at q0 q1 q2
  have z0 := K0.lt
  have z1 := K1.lt
  go_region_held3 (fun w' => (∀ b o, b < u.heap.size → w'.cell? ⟨b, o, none⟩ = u.cell? ⟨b, o, none⟩) ∧ Below u.heap.size u w')
    (first | exact sk (Below.refl _ _).drew | (go_split_ands; first | exact sk ‹_› | exact sk (Below.drew ‹_›) | exact sk (Below.alloc ‹_› (Below.size ‹_›) _) | exact sk (Below.drew (Below.alloc ‹_› (Below.size ‹_›) _))))
    (first | (go_at_call 55; with_reducible refine (compare_any _ _ _).mono ?_; rintro e w3 ⟨rfl, rfl⟩) | (go_at_call 74; with_reducible refine (compareS_any _ _ _).mono ?_; rintro e w3 ⟨rfl, rfl⟩) | (go_at_call 73; with_reducible refine (or_any _ _ _ _ _ _ (Blk.drew (Blk.new _ _ _))).mono ?_; rintro e w3 ⟨rfl, rfl⟩))
  go_wp2
  go_ret
  exact ⟨rfl, (hbu.alloc hbu.size _).drew⟩
theorem Blk.set3 {w : World} {g : Nat} {t : TypeId} {a b c : Value} (h : Blk w g t #[a, b, c]) (a' b' c' : Value) :
    Blk (((w.setCell ⟨g, 0, none⟩ a').setCell ⟨g, 1, none⟩ b').setCell ⟨g, 2, none⟩ c') g t #[a', b', c'] := by
  have h1 := ((h.set_ 0 a').set_ 1 b').set_ 2 c'
  simpa using h1
theorem Blk.far3 {w : World} {g : Nat} {t : TypeId} {cs : Array Value} (h : Blk w g t cs) {g' : Nat} (hg : g ≠ g') (a b c : Value) :
    Blk (((w.setCell ⟨g', 0, none⟩ a).setCell ⟨g', 1, none⟩ b).setCell ⟨g', 2, none⟩ c) g t cs := ((h.far (p := ⟨g', 0, none⟩) hg a).far (p := ⟨g', 1, none⟩) hg b).far (p := ⟨g', 2, none⟩) hg c
theorem mnV_step {p x : V3} {ps : List V3} {k : Nat} (h : ps[k]? = some x) : mnV p (ps.take (k + 1)) = if lsV x (mnV p (ps.take k)) then x else mnV p (ps.take k) := fold_step (f := fun m p => if lsV p m then p else m) h
set_option maxHeartbeats 4000000 in
theorem minFunc_any (A : Option Addr) (n c : Nat) (p : V3) (ps : List V3) (w : World) (hr : RdL cV 3 w w.heap.size A n c (p :: ps)) (hn : n ≤ 1000) :
    Calls Try.prog 71 #[.slice A n c, .func (.func 72) #[] #[]] w fun e w' => e = .returned (.agg #[.string (b8 (mnV p ps).1), .int .i64 (mnV p ps).2.1, .int .i64 (mnV p ps).2.2]) ∧ Below w.heap.size w w' := by
  have hl : ps.length + 1 = n := by have := hr.len; simpa using this
  obtain ⟨b, off, s0, x0, y0, rfl, hbl, hx, q0, q1, q2⟩ := hr.atV (show 0 < n by omega)
  have hx0 : p = (s0, x0, y0) := by have := hx.out; simpa using this
  subst hx0
  rw [Nat.zero_mul, Nat.add_zero] at q0 q1 q2
  have HR := Lib.hid hr
  have HL := Lib.hid hl
  clear hr hl hx
  have j1 : (0 : Int) < (n : Int) := by have := HL.out; omega
  have j2 : ¬ (n : Int) < 1 := by omega
  have j3 : ¬ n < 1 := by omega
  have j4 : 0 < n := by omega
  go_enter Try.func71, Try.ntmps71
  go_wp2_with fail
  have R0 : Blk ((w.alloc (.cells #[.string ⟨#[]⟩, .int .i64 0, .int .i64 0] 106)).alloc (.cells #[.string (b8 s0), .int .i64 x0, .int .i64 y0] 106)) (w.heap.size) 106 #[.string ⟨#[]⟩, .int .i64 0, .int .i64 0] := by have hk := (Blk.new w 106 #[.string ⟨#[]⟩, .int .i64 0, .int .i64 0]).alloc (.cells #[.string (b8 s0), .int .i64 x0, .int .i64 y0] 106); simpa using hk
  have M0 : Blk ((w.alloc (.cells #[.string ⟨#[]⟩, .int .i64 0, .int .i64 0] 106)).alloc (.cells #[.string (b8 s0), .int .i64 x0, .int .i64 y0] 106)) (w.heap.size + 1) 106 #[.string (b8 s0), .int .i64 x0, .int .i64 y0] := by have hk := Blk.new (w.alloc (.cells #[.string ⟨#[]⟩, .int .i64 0, .int .i64 0] 106)) 106 #[.string (b8 s0), .int .i64 x0, .int .i64 y0]; simpa using hk
  have hbu : Below w.heap.size w ((w.alloc (.cells #[.string ⟨#[]⟩, .int .i64 0, .int .i64 0] 106)).alloc (.cells #[.string (b8 s0), .int .i64 x0, .int .i64 y0] 106)) := (by repeat (first | exact Below.refl _ _ | assumption | refine Below.drew ?_ | refine below_drewN ?_ _ | refine Below.alloc ?_ (by first | omega | (simp <;> omega)) _ | refine Below.setCell ?_ (by first | omega | (simp <;> omega)) _))
  generalize ((w.alloc (.cells #[.string ⟨#[]⟩, .int .i64 0, .int .i64 0] 106)).alloc (.cells #[.string (b8 s0), .int .i64 x0, .int .i64 y0] 106)) = u at *
  clear q0 q1 q2
  go_loopw [6] (fun i wr => ∃ k : Nat, i = .int .i64 k ∧ 1 ≤ k ∧ k ≤ n ∧ ∃ (s1 : SL8) (x1 y1 : Int), Hid ((s1, x1, y1) = mnV (s0, x0, y0) (ps.take (k - 1))) ∧ Blk wr w.heap.size 106 #[.string ⟨#[]⟩, .int .i64 0, .int .i64 0] ∧ Blk wr (w.heap.size + 1) 106 #[.string (b8 s1), .int .i64 x1, .int .i64 y1] ∧ Below w.heap.size w wr) (fun i _ => n - (intOf i).toNat)
  case atStart => exact ⟨1, rfl, by omega, by omega, s0, x0, y0, rfl, R0, M0, hbu⟩
  case round =>
    clear R0 M0 hbu
    obtain ⟨k, rfl, hk1, hk, s1, x1, y1, hq, R1, M1, hb⟩ := hrel
    have m9 := M1.lt
    have h9 := hb.size
    by_cases hlt : k < n
    · obtain ⟨b1, off1, s, x, y, he, hbl1, hx, q0, q1, q2⟩ := (HR.out.below hb).atV hlt
      cases he
      have i1 : (k : Int) < (n : Int) := by omega
      have i2 : (0 : Int) ≤ (k : Int) := by omega
      have hx1 : Hid (ps[k - 1]? = some (s, x, y)) := by
        have h := hx.out
        obtain ⟨j, rfl⟩ : ∃ j, k = j + 1 := ⟨k - 1, by omega⟩
        show ps[j + 1 - 1]? = _
        simpa using h
      have hst := mnV_step (p := (s0, x0, y0)) hx1.out
      have hk2 : k - 1 + 1 = k := by omega
      rw [hk2, ← hq.out] at hst
      have hbl2 : b < wr.heap.size := by omega
      have c0 := M1.cell 0
      have c1 := M1.cell 1
      have c2 := M1.cell 2
      simp only [List.getElem?_toArray, List.getElem?_cons_succ, List.getElem?_cons_zero] at c0 c1 c2
      have HST := Lib.hid hst
      clear hst hx hk2
      by_cases hd : lsV (s, x, y) (s1, x1, y1)
      · obtain ⟨V, hV⟩ : ∃ V, v2V (s, x, y) (s1, x1, y1) = V := ⟨_, rfl⟩
        have hVl : V < 0 := by have h := v2_lt (s, x, y) (s1, x1, y1); rw [hV, decide_eq_true hd] at h; simpa using h
        have HV := Lib.hid hV
        have HD : Hid ((s, x, y) = mnV (s0, x0, y0) (ps.take k)) := by have h := HST.out; rw [if_pos hd] at h; exact h.symm
        clear hV hd HST
        go_wp2_with fail
        go_region_held3 (fun w' => (∀ b o, b < wr.heap.size → w'.cell? ⟨b, o, none⟩ = wr.cell? ⟨b, o, none⟩) ∧ Below wr.heap.size wr w') (first | exact sk (Below.refl _ _).drew | (go_split_ands; exact sk (below_app ‹_› hbw3 (Below.size ‹_›)))) (first | (go_at_call 72; with_reducible refine (vote2_any s s1 x y x1 y1 _).mono ?_; rintro e w3 ⟨rfl, hbw3⟩; rw [HV.out]))
        have B3 : Below wr.heap.size wr w3 := ((Below.refl _ _).drew).trans hbw3
        have M3 := M1.on B3
        have R3 := R1.on B3
        have HB3 := Lib.hid (below_app hb B3 h9)
        have hbne : b ≠ w.heap.size + 1 := by omega
        have hrne : w.heap.size ≠ w.heap.size + 1 := by omega
        clear hbw3 B3 hb R1 M1
        have f0 := M3.frozen 0
        have f1 := M3.frozen 1
        have f2 := M3.frozen 2
        have z3 := M3.lt
        go_wp2_with fail
        exact ⟨⟨k + 1, by go_num, by omega, by omega, s, x, y, HD.out, R3.far3 hrne _ _ _, M3.set3 _ _ _, ((HB3.out.setCell (Nat.le_succ _) _).setCell (Nat.le_succ _) _).setCell (Nat.le_succ _) _⟩, by simp [intOf]; omega⟩
      · obtain ⟨V, hV⟩ : ∃ V, v2V (s, x, y) (s1, x1, y1) = V := ⟨_, rfl⟩
        have hVl : ¬ V < 0 := by have h := v2_lt (s, x, y) (s1, x1, y1); rw [hV, decide_eq_false hd] at h; simpa using h
        have HV := Lib.hid hV
        have HD : Hid ((s1, x1, y1) = mnV (s0, x0, y0) (ps.take k)) := by have h := HST.out; rw [if_neg hd] at h; exact h.symm
        clear hV hd HST
        go_wp2_with fail
        go_region_held3 (fun w' => (∀ b o, b < wr.heap.size → w'.cell? ⟨b, o, none⟩ = wr.cell? ⟨b, o, none⟩) ∧ Below wr.heap.size wr w') (first | exact sk (Below.refl _ _).drew | (go_split_ands; exact sk (below_app ‹_› hbw3 (Below.size ‹_›)))) (first | (go_at_call 72; with_reducible refine (vote2_any s s1 x y x1 y1 _).mono ?_; rintro e w3 ⟨rfl, hbw3⟩; rw [HV.out]))
        have B3 : Below wr.heap.size wr w3 := ((Below.refl _ _).drew).trans hbw3
        have M3 := M1.on B3
        have R3 := R1.on B3
        have HB3 := Lib.hid (below_app hb B3 h9)
        clear c0 c1 c2 hbw3 B3 hb R1 M1
        go_wp2_with fail
        exact ⟨⟨k + 1, by go_num, by omega, by omega, s1, x1, y1, HD.out, R3, M3, HB3.out⟩, by simp [intOf]; omega⟩
    · have hkn : k = n := by omega
      subst hkn
      have r0 := R1.cell 0
      have r1 := R1.cell 1
      have r2 := R1.cell 2
      simp only [List.getElem?_toArray, List.getElem?_cons_succ, List.getElem?_cons_zero] at r0 r1 r2
      have c0 := M1.cell 0
      have c1 := M1.cell 1
      have c2 := M1.cell 2
      simp only [List.getElem?_toArray, List.getElem?_cons_succ, List.getElem?_cons_zero] at c0 c1 c2
      have f0 := R1.frozen 0
      have f1 := R1.frozen 1
      have f2 := R1.frozen 2
      have HX : Hid ((s1, x1, y1) = mnV (s0, x0, y0) ps) := by have h := hq.out; rw [List.take_of_length_le (by have := HL.out; omega)] at h; exact h
      have HB := Lib.hid hb
      go_wp2_with fail
      refine bodyPost_ret (v := .agg #[.string (b8 s1), .int .i64 x1, .int .i64 y1]) (by simp [results, Try.results71, go_sem, r0, r1, r2]) rfl ⟨?_, ((HB.out.setCell (Nat.le_refl _) _).setCell (Nat.le_refl _) _).setCell (Nat.le_refl _) _⟩
      rw [← HX.out]
end Go.Proofs.Ytkldejbhhbgefaa
