/- StraightenInk and FitInk, the reference's. -/
import Derived.Test.YtbfilhpgekgmbaaSg
namespace Go.Proofs.Ytbfilhpgekgmbaa
open Go.ChangeShapes Go.WideShapes Go.ChangeAt Go.RowKit
set_option linter.unusedVariables false
set_option linter.unusedSimpArgs false
theorem grown_belowI {a w w' : World} {row : Option Nat} (h : a.grownBy w row) (hb : Below w.heap.size w w') : a.grownBy w' row :=
  ⟨hb.os.trans h.os, hb.tape.trans h.tape, hb.output.trans h.output, Nat.le_trans h.size hb.size, fun i hi hne => (hb.block i (Nat.lt_of_lt_of_le hi h.size)).trans (h.block i hi hne)⟩
theorem grown_drewI {a w : World} {row : Option Nat} (h : a.grownBy w row) : a.grownBy w.drew row := ⟨h.os, h.tape, h.output, h.size, h.block⟩
theorem put3I {w : World} {base g n c k : Nat} {e : TypeId} {l r : List T3} {x : T3} (h : w.ownsRow base e 3 (.slice (some ⟨g, 0, none⟩) n c) n ((l ++ x :: r).flatMap c3)) (hl : l.length = k) (p : T3) :
    (((w.setCell ⟨g, k * 3, none⟩ (.int .i64 p.1)).setCell ⟨g, k * 3 + 1, none⟩ (.int .i64 p.2.1)).setCell ⟨g, k * 3 + 2, none⟩ (.int .i64 p.2.2)).ownsRow base e 3 (.slice (some ⟨g, 0, none⟩) n c) n ((l ++ [p] ++ r).flatMap c3) := by
  have h1 := (((h.stored (k * 3) (.int .i64 p.1)).1.stored (k * 3 + 1) (.int .i64 p.2.1)).1.stored (k * 3 + 2) (.int .i64 p.2.2)).1
  rw [List.flatMap_append, over3 (by rw [flat_len c3_len, hl]) (by rw [flat_len c3_len]; simp; omega)] at h1
  have he : List.flatMap c3 (l ++ [p] ++ r) = (List.flatMap c3 l ++ [.int .i64 p.1, .int .i64 p.2.1, .int .i64 p.2.2]) ++ (List.flatMap c3 (x :: r)).drop 3 := by
    rw [List.flatMap_append, List.flatMap_append, List.flatMap_cons]; simp [c3]
  rw [he]; exact h1
theorem NS.row {w w' : World} {base tS tP n c k : Nat} {A : Option Addr} {hs : List HS} {ys : List (List T3)} {q : HS} {x' : List T3} (h : NS w base tS tP A n c hs ys) (hne : tS ≠ tP) (hq : hs[k]? = some q) (hg : w.grownBy w' (Value.slice q.1 q.2.1 q.2.2).ownBlock)
    (ho : w'.ownsRow base tP 3 (.slice q.1 q.2.1 q.2.2) q.2.1 (x'.flatMap c3)) (hl : x'.length = q.2.1) : NS w' base tS tP A n c hs (ys.set k x') := by
  have hk : k < n := by have := (List.getElem?_eq_some_iff.1 hq).1; rw [h.l] at this; exact this
  obtain ⟨y0, hy0⟩ : ∃ y, ys[k]? = some y := ⟨_, List.getElem?_eq_getElem (by rw [h.x]; exact hk)⟩
  have hoq := (h.u k q y0 hq hy0).2
  obtain ⟨qa, qn, qc⟩ := q
  simp only at hg ho hl hoq
  refine ⟨h.o.kept hg ?_, h.l, by rw [List.length_set]; exact h.x, ?_, h.d⟩
  · cases A with
    | none => exact .inl rfl
    | some a =>
      refine .inr (fun h9 => ?_)
      exact oneS9 h.o hoq hne h9.symm
  · intro j q2 y h1 h2
    by_cases hj : k = j
    · subst hj
      rw [hq] at h1; cases h1
      rw [List.getElem?_set_self (by rw [h.x]; exact hk)] at h2
      cases h2
      exact ⟨hl, ho⟩
    · rw [List.getElem?_set_ne hj] at h2
      obtain ⟨g1, g2⟩ := h.u j q2 y h1 h2
      refine ⟨g1, g2.kept hg ?_⟩
      cases hqa : qa with
      | none =>
        cases hh : q2.1 with
        | none => exact .inl (by simp [Value.ownBlock])
        | some a => exact .inr (by simp [Value.ownBlock])
      | some a =>
        cases hh : q2.1 with
        | none => exact .inl (by simp [Value.ownBlock])
        | some a' =>
          refine .inr ?_
          have hab : a'.block ≠ a.block := by
            rcases Nat.lt_or_gt_of_ne hj with hlt9 | hlt9
            · exact (h.d k j _ q2 a a' hlt9 hq h1 (by rw [hqa]) hh).symm
            · exact h.d j k q2 _ a' a hlt9 h1 hq hh (by rw [hqa])
          simp [Value.ownBlock]; exact hab
def curI (g : T3 → T3) (xs : List (List T3)) (k : Nat) : List (List T3) := mpI g (xs.take k) ++ xs.drop k
def cur1 (g : T3 → T3) (x : List T3) (m : Nat) : List T3 := (x.take m).map g ++ x.drop m
theorem curI_zero (g : T3 → T3) (xs : List (List T3)) : curI g xs 0 = xs := by simp [curI, mpI]
theorem curI_all {g : T3 → T3} {xs : List (List T3)} {n : Nat} (h : xs.length = n) : curI g xs n = mpI g xs := by unfold curI; rw [List.take_of_length_le (by omega), List.drop_of_length_le (by omega), List.append_nil]
theorem curI_at {g : T3 → T3} {xs : List (List T3)} {k : Nat} {x : List T3} (h : xs[k]? = some x) : (curI g xs k)[k]? = some x := by
  have hk := (List.getElem?_eq_some_iff.1 h).1
  have hl : (mpI g (xs.take k)).length = k := by rw [mpI_len, List.length_take]; omega
  unfold curI
  rw [List.getElem?_append_right (by omega), hl, Nat.sub_self, List.getElem?_drop, Nat.add_zero]; exact h
theorem curI_step {g : T3 → T3} {xs : List (List T3)} {k : Nat} {x : List T3} (h : xs[k]? = some x) : (curI g xs k).set k (x.map g) = curI g xs (k + 1) := by
  have hk := (List.getElem?_eq_some_iff.1 h).1
  have hl : (mpI g (xs.take k)).length = k := by rw [mpI_len, List.length_take]; omega
  unfold curI
  rw [List.set_append_right _ _ (by omega), hl, Nat.sub_self, drop_of h, List.set_cons_zero, mpI_step h, List.append_assoc]; rfl
theorem cur1_zero (g : T3 → T3) (x : List T3) : cur1 g x 0 = x := by simp [cur1]
theorem cur1_all {g : T3 → T3} {x : List T3} {n : Nat} (h : x.length = n) : cur1 g x n = x.map g := by unfold cur1; rw [List.take_of_length_le (by omega), List.drop_of_length_le (by omega), List.append_nil]
theorem cur1_len (g : T3 → T3) (x : List T3) (m : Nat) : (cur1 g x m).length = x.length := by unfold cur1; rw [List.length_append, List.length_map, List.length_take, List.length_drop]; omega
theorem cur1_at {g : T3 → T3} {x : List T3} {m : Nat} {p : T3} (h : x[m]? = some p) : cur1 g x m = (x.take m).map g ++ p :: x.drop (m + 1) := by unfold cur1; rw [drop_of h]
theorem cur1_step {g : T3 → T3} {x : List T3} {m : Nat} {p : T3} (h : x[m]? = some p) : (x.take m).map g ++ [g p] ++ x.drop (m + 1) = cur1 g x (m + 1) := by unfold cur1; rw [mp_step h]
set_option maxHeartbeats 2000000 in
theorem l02OwnStroke_ptr (A : Option Addr) (n c : Nat) (x : List T3) (w : World) (g0 oo : Nat) (K0 : Cel w g0 oo (.slice A n c)) (hr : RdL c3 3 w w.heap.size A n c x) (hpos : 0 < n) (hn : n ≤ 1048576) :
    Calls Try.prog 57 #[.pointer (some ⟨g0, oo, none⟩)] w fun e w' => ∃ A' c', e = .returned (.agg #[.slice A' n c']) ∧ w'.ownsRow w.heap.size 54 3 (.slice A' n c') n (x.flatMap c3) ∧ Below w.heap.size w w' := by
  obtain ⟨i3, hi3, hy0, hy1, hy2⟩ := info_parts Try.infoPointI
  obtain ⟨b, off, _, rfl, _⟩ := RdL.at_ (f := c3) c3_len hr hpos
  have HR := Lib.hid hr
  have e0 := K0.cell
  have z0 := K0.lt
  clear hr
  have hBs : Below w.heap.size w ((w.alloc (.cells #[.slice none 0 0] 52)).alloc (.cells #[] 54)) := (by repeat (first | exact Below.refl _ _ | assumption | refine Below.drew ?_ | refine below_drewN ?_ _ | refine Below.alloc ?_ (by first | omega | (simp <;> omega)) _ | refine Below.setCell ?_ (by first | omega | (simp <;> omega)) _))
  have K2 : Blk ((w.alloc (.cells #[.slice none 0 0] 52)).alloc (.cells #[] 54)) w.heap.size 52 #[.slice none 0 0] := (Blk.new _ _ _).alloc _
  go_enter Try.func57, Try.ntmps57
  go_wp2_with (at_builtin; with_reducible refine app_all _ c3_len one3 rfl (.tmp 3) (.tmp 7) 50 rfl (w.heap.size + 1) 54 i3 _ Try.underPoints hi3 hy0 hy1 hy2 rfl (by decide) (by decide) _ _ rfl ?_ (some ⟨b, off, none⟩) n c w.heap.size x rfl ?_ hpos hn ?_ ?_)
  · simpa using World.ownsRow_lit (base := w.heap.size + 1) (e := 54) (size := 3) (w.alloc (.cells #[.slice none 0 0] 52)) #[] 0 (by simp) (by simp [maxLen]) rfl
  · exact HR.out.below hBs
  · simp
  · intro A' c' w' ho hb
    have HO := Lib.hid ho
    have K3 := K2.belowBI hb (by omega)
    obtain ⟨k0, f0, zk⟩ := K3.one
    have hB2 : Below w.heap.size w w' := hBs.trans (hb.mono (by omega))
    clear ho hb K2
    go_wp2
    refine bodyPost_ret (v := .agg #[.slice A' n c']) (by simp [results, Try.results57, go_sem, k0]) rfl ⟨A', c', rfl, ?_, (by repeat (first | exact Below.refl _ _ | assumption | refine Below.drew ?_ | refine below_drewN ?_ _ | refine Below.alloc ?_ (by first | omega | (simp <;> omega)) _ | refine Below.setCell ?_ (by first | omega | (simp <;> omega)) _))⟩
    exact own_mono (ownsRow_setCell_below HO.out (by simp only; omega) _) (by omega)
set_option maxRecDepth 100000 in
set_option maxHeartbeats 8000000 in
theorem l02Own_ptr (A : Option Addr) (n c : Nat) (xs : List (List T3)) (w : World) (gk oo : Nat) (K0 : Cel w gk oo (.slice A n c)) (hr : NL w w.heap.size A n c xs) (hok : inkB xs = true) :
    Calls Try.prog 29 #[.pointer (some ⟨gk, oo, none⟩)] w fun e w' => ∃ (A' : Option Addr) (c' : Nat) (hs : List HS), e = .returned (.agg #[.slice A' n c']) ∧ NS w' w.heap.size 52 54 A' n c' hs xs ∧ Below w.heap.size w w' := by
  obtain ⟨i0, hi, hz0, hz1, hz2⟩ := info_parts Try.infoStrokeI
  have hl := Lib.hid hr.len
  have h16 := inkB_len hok
  rw [hl.out] at h16
  have HR := Lib.hid hr
  have Hok := Lib.hid hok
  have zk0 := K0.lt
  clear hr hok
  go_enter Try.func29, Try.ntmps29
  go_wp2_with fail
  have R0 : Blk ((w.alloc (.cells #[.slice none 0 0] 28)).alloc (.cells #[.slice none 0 0] 28)) (w.heap.size) 28 #[.slice none 0 0] := by have hk := (Blk.new w 28 #[.slice none 0 0]).alloc (.cells #[.slice none 0 0] 28); simpa using hk
  have O0 : Blk ((w.alloc (.cells #[.slice none 0 0] 28)).alloc (.cells #[.slice none 0 0] 28)) (w.heap.size + 1) 28 #[.slice none 0 0] := by have hk := Blk.new (w.alloc (.cells #[.slice none 0 0] 28)) 28 #[.slice none 0 0]; simpa using hk
  have hbv : Below w.heap.size w ((w.alloc (.cells #[.slice none 0 0] 28)).alloc (.cells #[.slice none 0 0] 28)) := (by repeat (first | exact Below.refl _ _ | assumption | refine Below.drew ?_ | refine below_drewN ?_ _ | refine Below.alloc ?_ (by first | omega | (simp <;> omega)) _ | refine Below.setCell ?_ (by first | omega | (simp <;> omega)) _))
  generalize ((w.alloc (.cells #[.slice none 0 0] 28)).alloc (.cells #[.slice none 0 0] 28)) = v at *
  have zv := O0.lt
  go_loopw [4] (fun i wr => ∃ (k c' : Nat) (A' : Option Addr) (hs : List HS), k ≤ n ∧ i = .int .i64 k ∧ Below w.heap.size w wr ∧ v.heap.size ≤ wr.heap.size ∧ Blk wr w.heap.size 28 #[.slice none 0 0] ∧ Blk wr (w.heap.size + 1) 28 #[.slice A' k c'] ∧ Hid (NS wr v.heap.size 52 54 A' k c' hs (xs.take k))) (fun i _ => n - (intOf i).toNat)
  case atStart => exact ⟨0, 0, none, [], by omega, rfl, hbv, Nat.le_refl _, R0, O0, NS.nil _ _ _ _⟩
  case round =>
    clear O0 R0
    obtain ⟨k, c', A', hs, hk, rfl, hb, hsz, R1, O1, hT⟩ := hrel
    have hsw := hb.size
    have K1 := K0.on hb
    have e0 := K1.cell
    have ze := K1.lt
    by_cases hlt : k < n
    · obtain ⟨b, off, B', n', cb', x, rfl, hbl, hx, q0, hx3⟩ := (HR.out.on hb).at_ hlt
      have i1 : (k : Int) < (n : Int) := by omega
      have i2 : (0 : Int) ≤ (k : Int) := by omega
      have hst := inkB_at Hok.out hx.out
      have hxl := Lib.hid hx3.len
      have hsl := strokeB_len hst
      rw [hxl.out] at hsl
      have hpos : 0 < n' := by omega
      have hxn : n' ≤ 1048576 := by omega
      have HX := Lib.hid hx3
      have HC := Lib.hid (show Cel wr b (off + k) (.slice B' n' cb') from ⟨hbl, q0⟩)
      clear hx3 q0
      go_wp2_with fail
      have zo := O1.lt
      obtain ⟨o0, f0, _⟩ := O1.one
      go_region_law (first | (refine step_growI _ cS_len oneS (by rfl) (.tmp 16) (.tmp 24) 26 (by rfl) v.heap.size 52 i0 _ Try.underStrokes hi hz0 hz1 hz2 rfl (by decide) (by decide) A' k c' hs (by rfl) ((own_below (own_below hT.out.o ((Below.refl _ _).drew)) hbw3).alloc _) w3.heap.size 1 (A3, n', q3) (by rfl) (newsS (Blk.new w3 52 #[.slice A3 n' q3])) (by omega) (by have := hbw3.size; simp only [hs_drew] at this; simp; omega) ?_; intro A4 c4 w4 hw4 hg4; have hB4 : Below v.heap.size (w3.alloc (.cells #[.slice A3 n' q3] 52)) w4 := (Below.refl _ _).grown hg4 (by have := hbw3.size; simp only [hs_drew] at this; simp; omega) (fun q hq => (hT.out.o.lt q hq).1); obtain ⟨j0, g0, zr⟩ := (((O1.drew.on hbw3).alloc (.cells #[.slice A3 n' q3] 52)).belowBI hB4 zv).one) | (go_simp; go_at_call 57; with_reducible refine (l02OwnStroke_ptr _ _ _ x _ _ _ (HC.out.on (Below.refl _ _).drew) (HX.out.on (Below.refl _ _).drew) hpos hxn).mono ?_; rintro e w3 ⟨A3, q3, rfl, o3, hbw3⟩; have e9 := ((K1.on (Below.refl _ _).drew).on hbw3).cell; obtain ⟨u0, y0, zs9⟩ := (O1.drew.on hbw3).one))
      all_goals
        have hD : Below wr.heap.size wr w3 := below_app ((Below.refl _ _).drew) hbw3 (Nat.le_refl _)
        have zD := hD.size
        have hDa : Below w3.heap.size w3 (w3.alloc (.cells #[.slice A3 n' q3] 52)) := (Below.refl _ _).alloc (Nat.le_refl _) _
        have hT3 := Lib.hid ((hT.out.on hD).on hDa)
        have hO3 := Lib.hid (o3.alloc (.cells #[.slice A3 n' q3] 52))
        have HB4 := Lib.hid hB4
        have HG4 := Lib.hid hg4
        have HW4 := Lib.hid hw4
        have O4 := Lib.hid (((O1.drew.on hbw3).alloc (.cells #[.slice A3 n' q3] 52)).belowBI hB4 zv)
        have R4 := Lib.hid (((R1.drew.on hbw3).alloc (.cells #[.slice A3 n' q3] 52)).belowBI hB4 (by omega))
        clear hB4 hg4 hw4 o3
        go_wp2
        have hP := NS.push hT3.out (by decide) hO3.out hxl.out (by simp only [hs_drew]; omega) (fun i q a hi9 ha9 => (hT.out.top i q a hi9 ha9).2) HW4.out HG4.out
        have hb4 : Below w.heap.size w w4 := ((hb.trans (hD.mono (by omega))).alloc (by omega) _).trans (HB4.out.mono (by omega))
        have z4 := HB4.out.size
        refine ⟨⟨k + 1, c4, A4, hs ++ [(A3, n', q3)], by omega, by go_num, hb4.setCell (by simp only; omega) _, ?_, R4.out.far (by simp only; omega) _, O4.out.set_ 0 _, ?_⟩, by simp [intOf]; omega⟩
        · simp [World.setCell] at z4 ⊢; omega
        · unfold Hid
          rw [take_succ_of hx.out]
          exact hP.far (by simp only; omega) _
    · have hkm : k = n := by omega
      subst hkm
      obtain ⟨o0, _, zo⟩ := O1.one
      obtain ⟨r0, f0, zr⟩ := R1.one
      go_wp2
      refine bodyPost_ret (v := .agg #[.slice A' k c']) (by simp [results, Try.results29, go_sem, r0]) rfl ⟨A', c', hs, rfl, ?_, ?_⟩
      · have h9 := hT.out
        rw [List.take_of_length_le (by rw [hl.out]; exact Nat.le_refl _)] at h9
        exact (h9.far (by simp only; omega) _).mono (by omega)
      · exact hb.setCell (by simp only; omega) _
set_option maxRecDepth 100000 in
set_option maxHeartbeats 16000000 in
theorem sStraight_any (A : Option Addr) (n c : Nat) (xs : List (List T3)) (s bs : Int) (w : World) (hr : NL w w.heap.size A n c xs) (hn : totL xs ≤ 1048576) :
    Calls Try.prog 9 #[.agg #[.slice A n c], .int .i64 s, .int .i64 bs] w fun e w' => ∃ (A' : Option Addr) (n' c' : Nat) (hs : List HS), e = .returned (.tuple #[.agg #[.slice A' n' c'], .int .i64 (stE s bs xs)]) ∧
      NS w' w.heap.size 52 54 A' n' c' hs (stL s bs xs) ∧ Below w.heap.size w w' := by
  have hl := Lib.hid hr.len
  go_enter Try.func9, Try.ntmps9
  go_wp2_with fail
  have K0 : Blk ((w.alloc (.cells #[.slice A n c] 28)).alloc (.cells #[.slice none 0 0] 28)) (w.heap.size) 28 #[.slice A n c] := by have hk := (Blk.new w 28 #[.slice A n c]).alloc (.cells #[.slice none 0 0] 28); simpa using hk
  have R0 : Blk ((w.alloc (.cells #[.slice A n c] 28)).alloc (.cells #[.slice none 0 0] 28)) (w.heap.size + 1) 28 #[.slice none 0 0] := by have hk := Blk.new (w.alloc (.cells #[.slice A n c] 28)) 28 #[.slice none 0 0]; simpa using hk
  have hbv : Below w.heap.size w ((w.alloc (.cells #[.slice A n c] 28)).alloc (.cells #[.slice none 0 0] 28)) := (by repeat (first | exact Below.refl _ _ | assumption | refine Below.drew ?_ | refine below_drewN ?_ _ | refine Below.alloc ?_ (by first | omega | (simp <;> omega)) _ | refine Below.setCell ?_ (by first | omega | (simp <;> omega)) _))
  replace hr := hr.on hbv
  generalize ((w.alloc (.cells #[.slice A n c] 28)).alloc (.cells #[.slice none 0 0] 28)) = v at *
  have hB := hbv
  go_wp2_with fail
  with_reducible refine (l02Ok_ptr _ _ _ xs _ _ _ K0.cel hr hn).mono ?_
  rintro e wb ⟨rfl, hb1⟩
  replace K0 := K0.on hb1
  replace R0 := R0.on hb1
  replace hr := hr.on hb1
  replace hB := below_on hb1 hB
  clear hb1 hbv
  have HR := Lib.hid hr
  clear hr
  obtain ⟨r0, f0, z3⟩ := R0.one
  cases hok : inkB xs with
  | false =>
    have F := Lib.hid (st_bad (s := s) (b := bs) hok)
    go_wp2
    refine bodyPost_ret (v := .tuple #[.agg #[.slice none 0 0], .int .i64 1]) (by simp [results, Try.results9, go_sem, r0]) rfl ⟨none, 0, 0, [], by rw [F.out.2], NS.kept4 _ F.out.1, (by repeat (first | exact Below.refl _ _ | assumption | refine Below.drew ?_ | refine below_drewN ?_ _ | refine Below.alloc ?_ (by first | omega | (simp <;> omega)) _ | refine Below.setCell ?_ (by first | omega | (simp <;> omega)) _))⟩
  | true =>
    have Hok := Lib.hid hok
    have h16 := inkB_len hok
    rw [hl.out] at h16
    cases h1 : inB (-256) 256 s with
    | false =>
      have F := Lib.hid (st_far (s := s) (b := bs) hok (by rw [h1]; rfl))
      have H1 := Lib.hid h1
      clear hok
      go_wp2_with (first | (go_at_call 28; with_reducible refine (l00In_any _ _ _ _).mono ?_; rw [H1.out]; rintro e w' ⟨rfl, rfl⟩))
      refine bodyPost_ret (v := .tuple #[.agg #[.slice none 0 0], .int .i64 2]) (by simp [results, Try.results9, go_sem, r0]) rfl ⟨none, 0, 0, [], by rw [F.out.2], NS.kept4 _ F.out.1, (by repeat (first | exact Below.refl _ _ | assumption | refine Below.drew ?_ | refine below_drewN ?_ _ | refine Below.alloc ?_ (by first | omega | (simp <;> omega)) _ | refine Below.setCell ?_ (by first | omega | (simp <;> omega)) _))⟩
    | true =>
      have H1 := Lib.hid h1
      cases h2 : inB 0 4095 bs with
      | false =>
        have F := Lib.hid (st_far (s := s) (b := bs) hok (by rw [h1, h2]; rfl))
        have H2 := Lib.hid h2
        clear hok
        go_wp2_with (first | (go_at_call 28; with_reducible refine (l00In_any _ _ _ _).mono ?_; (first | rw [H1.out] | rw [H2.out]); rintro e w' ⟨rfl, rfl⟩))
        refine bodyPost_ret (v := .tuple #[.agg #[.slice none 0 0], .int .i64 2]) (by simp [results, Try.results9, go_sem, r0]) rfl ⟨none, 0, 0, [], by rw [F.out.2], NS.kept4 _ F.out.1, (by repeat (first | exact Below.refl _ _ | assumption | refine Below.drew ?_ | refine below_drewN ?_ _ | refine Below.alloc ?_ (by first | omega | (simp <;> omega)) _ | refine Below.setCell ?_ (by first | omega | (simp <;> omega)) _))⟩
      | true =>
        have H2 := Lib.hid h2
        have H12 := Lib.hid (show (inB (-256) 256 s && inB 0 4095 bs) = true by rw [h1, h2]; rfl)
        obtain ⟨a0, a1⟩ := inB_iff.1 h1
        obtain ⟨a2, a3⟩ := inB_iff.1 h2
        clear hok h1 h2
        go_wp2_with (first | (go_at_call 28; with_reducible refine (l00In_any _ _ _ _).mono ?_; (first | rw [H1.out] | rw [H2.out]); rintro e w' ⟨rfl, rfl⟩) | (go_at_call 29; fail))
        with_reducible refine (l02Own_ptr _ _ _ xs _ _ _ K0.cel HR.out Hok.out).mono ?_
        rintro e w2 ⟨A2, c2, hs2, rfl, NS2, hb2⟩
        have HN2 := Lib.hid NS2
        have hzw := hB.size
        have hz2 := hb2.size
        replace R0 := R0.on hb2
        replace hB := below_on hb2 hB
        have zwb := z3
        clear r0 f0 NS2 hb2 z3
        go_wp2_with fail
        have K8 := Blk.new (w2) 28 #[.slice A2 n c2]
        have hbw3 : Below (w2).heap.size (w2) ((w2).alloc (.cells #[.slice A2 n c2] 28)) := (Below.refl _ _).alloc (Nat.le_refl _) _
        replace R0 := R0.on hbw3
        generalize (w2).alloc (.cells #[.slice A2 n c2] 28) = w3 at *
        replace hB := below_on hbw3 hB
        have HN := Lib.hid (HN2.out.on hbw3)
        have e9 := hbw3.size
        clear hbw3 K0
        clear e9
        go_loopw [9] (fun i wr => ∃ k : Nat, k ≤ n ∧ i = .int .i64 k ∧ Below w.heap.size w wr ∧ w3.heap.size ≤ wr.heap.size ∧ Blk wr w2.heap.size 28 #[.slice A2 n c2] ∧ Blk wr (w.heap.size + 1) 28 #[.slice none 0 0] ∧ Hid (NS wr wb.heap.size 52 54 A2 n c2 hs2 (curI (stP s bs) xs k))) (fun i _ => n - (intOf i).toNat)
        case atStart => exact ⟨0, by omega, rfl, hB, Nat.le_refl _, K8, R0, by rw [curI_zero]; exact HN.out⟩
        case round =>
          clear K8 R0 hB HN
          obtain ⟨k, hk, rfl, hB, hz3, K8, R0, hN⟩ := hrel
          have z8 := K8.lt
          obtain ⟨e8, _, _⟩ := K8.one
          by_cases hlt : k < n
          · obtain ⟨x, hxx⟩ : ∃ x, xs[k]? = some x := ⟨_, List.getElem?_eq_getElem (by rw [hl.out]; exact hlt)⟩
            obtain ⟨q, hq⟩ : ∃ q, hs2[k]? = some q := ⟨_, List.getElem?_eq_getElem (by rw [hN.out.l]; exact hlt)⟩
            have hst := inkB_at Hok.out hxx
            have hsl := strokeB_len hst
            obtain ⟨hxl, hoq⟩ := hN.out.u k q x hq (curI_at hxx)
            obtain ⟨qa, qn, qc⟩ := q
            simp only at hxl hoq
            subst hxl
            obtain ⟨g9, rfl, hg90, hg91⟩ := own_at hoq (by omega)
            obtain ⟨g2, rfl, hg20, hg21⟩ := own_at hN.out.o (by omega)
            have e7 : wr.cell? ⟨g2, k, none⟩ = some (.slice (some ⟨g9, 0, none⟩) x.length qc) := by
              have h9 := hN.out.o.cellAt (k * 1 + 0) (by omega)
              rw [flat_get cS_len hs2 k 0 _ hq (by omega)] at h9
              simpa [cS] using h9
            have i1 : (k : Int) < (n : Int) := by omega
            have i2 : (0 : Int) ≤ (k : Int) := by omega
            have HQ := Lib.hid hq
            have HXX := Lib.hid hxx
            have HOQ := Lib.hid hoq
            have hcap : x.length ≤ 9223372036854775807 := by omega
            have hbz := hB.size
            clear hq hoq
            go_wp2_with fail
            obtain ⟨wo, rfl⟩ : ∃ wo, wo = wr := ⟨_, rfl⟩
            clear e7 e8
            go_loopw [11] (fun i wi => ∃ m : Nat, m ≤ x.length ∧ i = .int .i64 m ∧ wo.grownBy wi (some g9) ∧ Hid (wi.ownsRow wb.heap.size 54 3 (.slice (some ⟨g9, 0, none⟩) x.length qc) x.length ((cur1 (stP s bs) x m).flatMap c3))) (fun i _ => x.length - (intOf i).toNat)
            case atStart => exact ⟨0, by omega, rfl, World.grownBy.refl _ _, by rw [cur1_zero]; exact HOQ.out⟩
            case round =>
              obtain ⟨wi, rfl⟩ : ∃ wi, wi = wr := ⟨_, rfl⟩
              obtain ⟨m, hm, rfl, hgr, hO⟩ := hrel
              by_cases hlm : m < x.length
              · obtain ⟨⟨px, py, pt⟩, hp⟩ : ∃ p, x[m]? = some p := ⟨_, List.getElem?_eq_getElem hlm⟩
                have hpb := pt_in hst hp
                simp only at hpb
                have hcl : ((x.take m).map (stP s bs)).length = m := by rw [List.length_map, List.length_take]; omega
                have hO2 : Hid (wi.ownsRow wb.heap.size 54 3 (.slice (some ⟨g9, 0, none⟩) x.length qc) x.length (((x.take m).map (stP s bs) ++ (px, py, pt) :: x.drop (m + 1)).flatMap c3)) := by show World.ownsRow _ _ _ _ _ _ _; rw [← cur1_at hp]; exact hO.out
                obtain ⟨bb, of2, ax, ay, at_, he, hbl3, hp2, r0, r1, r2⟩ := (RdL.of_own (cur1_len (stP s bs) x m) hO.out).at3 hlm
                cases he
                have hpe : (ax, ay, at_) = (px, py, pt) := by
                  have h9 := hp2.out
                  rw [cur1_at hp, List.getElem?_append_right (by omega), hcl, Nat.sub_self] at h9
                  simpa using h9.symm
                cases hpe
                simp only [Nat.zero_add] at r0 r1 r2
                have HPP := Lib.hid hp
                have j1 : (m : Int) < (x.length : Int) := by omega
                have j2 : (0 : Int) ≤ (m : Int) := by omega
                have zi := hgr.size
                obtain ⟨m0, m1⟩ := mul_bd9 (a := s) (b := bs - py) 256 4095 (by omega) (by omega) (by omega) (by omega)
                obtain ⟨im, him⟩ : ∃ im, s * (bs - py) = im := ⟨_, rfl⟩
                rw [him] at m0 m1
                obtain ⟨n0, n1⟩ := nearD_in (n := im) (d := 256) (B := 1048320) (by omega) (by omega) (by omega) (by omega)
                have HPG : Hid (stP s bs (px, py, pt) = (px - nearD im 256, py, pt)) := by show _ = _; unfold stP; simp only [him]
                have o1 : IntKind.i64.wrap (bs - py) = bs - py := IntWalk.i64_in _ (by omega)
                have o2 : IntKind.i64.wrap (s * (bs - py)) = im := by rw [him]; exact IntWalk.i64_in _ (by omega)
                have o3 : IntKind.i64.wrap (px - nearD im 256) = px - nearD im 256 := IntWalk.i64_in _ (by omega)
                have Z1 := Lib.hid (fun W => l05Near_any im 256 W (by omega) (by omega) (by omega) (by omega))
                clear him m0 m1 n0 n1
                clear hp hp2 hO
                go_wp2_with fail
                clear r0 r1 r2
                have KP := Blk.new (wi) 54 #[.int .i64 px, .int .i64 py, .int .i64 pt]
                have hbwj : Below (wi).heap.size (wi) ((wi).alloc (.cells #[.int .i64 px, .int .i64 py, .int .i64 pt] 54)) := (Below.refl _ _).alloc (Nat.le_refl _) _
                generalize (wi).alloc (.cells #[.int .i64 px, .int .i64 py, .int .i64 pt] 54) = wj at *
                have HJ := Lib.hid (own_below hO2.out hbwj)
                obtain ⟨⟨v0, y0⟩, f0⟩ := own_cell HJ.out (j := m * 3) (by omega)
                obtain ⟨⟨v1, y1⟩, f1⟩ := own_cell HJ.out (j := m * 3 + 1) (by omega)
                obtain ⟨⟨v2, y2⟩, f2⟩ := own_cell HJ.out (j := m * 3 + 2) (by omega)
                obtain ⟨p0, p1, p2, zp⟩ := KP.three
                have hg9j := (HJ.out.lt g9 rfl).2
                have ne1 : ¬ wi.heap.size = g9 := by omega
                have ne1r : ¬ g9 = wi.heap.size := by omega
                have hgj := Lib.hid (grown_belowI hgr hbwj)
                skip
                go_wp2_with fail
                go_region_held3 (fun w' => w'.cell? ⟨wi.heap.size, 0, none⟩ = some (.int .i64 px) ∧ w'.cell? ⟨wi.heap.size, 1, none⟩ = some (.int .i64 py) ∧ w'.cell? ⟨wi.heap.size, 2, none⟩ = some (.int .i64 pt)) (first | exact ⟨p0, p1, p2⟩ | go_keep) (first | (go_at_call 30; with_reducible refine (Z1.out _).mono ?_; rintro e w7 ⟨rfl, rfl⟩))
                go_wp2
                refine ⟨⟨m + 1, by omega, by go_num, grown_drewI (only_setCell (only_setCell (only_setCell hgj.out (.inl rfl) _) (.inl rfl) _) (.inl rfl) _), ?_⟩, by simp [intOf]; omega⟩
                have h9 := put3I HJ.out hcl (px - nearD im 256, py, pt)
                rw [← HPG.out, cur1_step HPP.out] at h9
                rw [HPG.out] at h9
                exact h9
              · have hmn : m = x.length := by omega
                subst hmn
                have hO2 := hO.out
                rw [cur1_all rfl] at hO2
                have HN2 := Lib.hid (NS.row hN.out (by decide) HQ.out hgr hO2 (by rw [List.length_map]))
                have K82 := K8.grownI HOQ.out hgr (by decide)
                have R02 := R0.grownI HOQ.out hgr (by decide)
                skip
                have hB2 : Below w.heap.size w wi := hB.grown hgr hbz (fun k9 hk9 => by cases hk9; omega)
                have zi := hgr.size
                have HXS : Hid ((curI (stP s bs) xs k).set k (x.map (stP s bs)) = curI (stP s bs) xs (k + 1)) := curI_step HXX.out
                clear hO hO2 hN
                go_wp2
                exact ⟨⟨k + 1, by omega, by go_num, hB2, by omega, K82, R02, by rw [← HXS.out]; exact HN2.out⟩, by simp [intOf]; omega⟩
          · have hkn : k = n := by omega
            subst hkn
            have HN2 : Hid (NS wr wb.heap.size 52 54 A2 k c2 hs2 (mpI (stP s bs) xs)) := by show NS _ _ _ _ _ _ _ _ _; rw [← curI_all hl.out]; exact hN.out
            obtain ⟨r0, f0, z9⟩ := R0.one
            have hzb := hB.size
            clear hN
            go_wp2_with fail
            with_reducible refine (l02Ok_ptr _ _ _ _ _ _ _ K8.cel HN2.out.nl (by rw [mpI_tot]; exact hn)).mono ?_
            rintro e w4 ⟨rfl, hb4⟩
            replace K8 := K8.on hb4
            replace R0 := R0.on hb4
            replace hB := below_on hb4 hB
            have HN4 := Lib.hid (HN2.out.on hb4)
            clear r0 f0 hb4
            obtain ⟨k0, _, zk⟩ := K8.one
            obtain ⟨r0, f0, z9⟩ := R0.one
            cases h3 : inkB (mpI (stP s bs) xs) with
            | false =>
              have F := Lib.hid (st_out Hok.out H12.out h3)
              go_wp2
              refine bodyPost_ret (v := .tuple #[.agg #[.slice none 0 0], .int .i64 6]) (by simp [results, Try.results9, go_sem, r0]) rfl ⟨none, 0, 0, [], by rw [F.out.2], NS.kept4 _ F.out.1, (by repeat (first | exact Below.refl _ _ | assumption | refine Below.drew ?_ | refine below_drewN ?_ _ | refine Below.alloc ?_ (by first | omega | (simp <;> omega)) _ | refine Below.setCell ?_ (by first | omega | (simp <;> omega)) _))⟩
            | true =>
              have F := Lib.hid (st_ok Hok.out H12.out h3)
              go_wp2
              refine bodyPost_ret (v := .tuple #[.agg #[.slice A2 k c2], .int .i64 0]) (by simp [results, Try.results9, go_sem, r0]) rfl ⟨A2, k, c2, hs2, by rw [F.out.2], ?_, (by repeat (first | exact Below.refl _ _ | assumption | refine Below.drew ?_ | refine below_drewN ?_ _ | refine Below.alloc ?_ (by first | omega | (simp <;> omega)) _ | refine Below.setCell ?_ (by first | omega | (simp <;> omega)) _))⟩
              rw [F.out.1]
              exact (HN4.out.far (by simp only; omega) _).mono (by omega)
set_option maxRecDepth 100000 in
set_option maxHeartbeats 16000000 in
theorem sFit_any (A : Option Addr) (n c : Nat) (xs : List (List T3)) (side : Int) (w : World) (hr : NL w w.heap.size A n c xs) (hn : totL xs ≤ 1048576) :
    Calls Try.prog 15 #[.agg #[.slice A n c], .int .i64 side] w fun e w' => ∃ (A' : Option Addr) (n' c' : Nat) (hs : List HS), e = .returned (.tuple #[.agg #[.slice A' n' c'], .int .i64 (ftE side xs)]) ∧
      NS w' w.heap.size 52 54 A' n' c' hs (ftL side xs) ∧ Below w.heap.size w w' := by
  have hl := Lib.hid hr.len
  go_enter Try.func15, Try.ntmps15
  go_wp2_with fail
  have K0 : Blk ((w.alloc (.cells #[.slice A n c] 28)).alloc (.cells #[.slice none 0 0] 28)) (w.heap.size) 28 #[.slice A n c] := by have hk := (Blk.new w 28 #[.slice A n c]).alloc (.cells #[.slice none 0 0] 28); simpa using hk
  have R0 : Blk ((w.alloc (.cells #[.slice A n c] 28)).alloc (.cells #[.slice none 0 0] 28)) (w.heap.size + 1) 28 #[.slice none 0 0] := by have hk := Blk.new (w.alloc (.cells #[.slice A n c] 28)) 28 #[.slice none 0 0]; simpa using hk
  have hbv : Below w.heap.size w ((w.alloc (.cells #[.slice A n c] 28)).alloc (.cells #[.slice none 0 0] 28)) := (by repeat (first | exact Below.refl _ _ | assumption | refine Below.drew ?_ | refine below_drewN ?_ _ | refine Below.alloc ?_ (by first | omega | (simp <;> omega)) _ | refine Below.setCell ?_ (by first | omega | (simp <;> omega)) _))
  replace hr := hr.on hbv
  generalize ((w.alloc (.cells #[.slice A n c] 28)).alloc (.cells #[.slice none 0 0] 28)) = v at *
  have hB := hbv
  go_wp2_with fail
  with_reducible refine (l02Ok_ptr _ _ _ xs _ _ _ K0.cel hr hn).mono ?_
  rintro e wa ⟨rfl, hb1⟩
  replace K0 := K0.on hb1
  replace R0 := R0.on hb1
  replace hr := hr.on hb1
  replace hB := below_on hb1 hB
  clear hb1 hbv
  have HR := Lib.hid hr
  clear hr
  obtain ⟨e0, _, ze⟩ := K0.one
  obtain ⟨r0, f0, z3⟩ := R0.one
  cases hok : inkB xs with
  | false =>
    have F := Lib.hid (ft_bad (side := side) hok)
    go_wp2
    refine bodyPost_ret (v := .tuple #[.agg #[.slice none 0 0], .int .i64 1]) (by simp [results, Try.results15, go_sem, r0]) rfl ⟨none, 0, 0, [], by rw [F.out.2], NS.kept4 _ F.out.1, (by repeat (first | exact Below.refl _ _ | assumption | refine Below.drew ?_ | refine below_drewN ?_ _ | refine Below.alloc ?_ (by first | omega | (simp <;> omega)) _ | refine Below.setCell ?_ (by first | omega | (simp <;> omega)) _))⟩
  | true =>
    have Hok := Lib.hid hok
    have h16 := inkB_len hok
    rw [hl.out] at h16
    cases h1 : inB 1 4095 side with
    | false =>
      have F := Lib.hid (ft_far hok h1)
      have H1 := Lib.hid h1
      clear hok
      go_wp2_with (first | (go_at_call 28; with_reducible refine (l00In_any _ _ _ _).mono ?_; rw [H1.out]; rintro e w' ⟨rfl, rfl⟩))
      refine bodyPost_ret (v := .tuple #[.agg #[.slice none 0 0], .int .i64 2]) (by simp [results, Try.results15, go_sem, r0]) rfl ⟨none, 0, 0, [], by rw [F.out.2], NS.kept4 _ F.out.1, (by repeat (first | exact Below.refl _ _ | assumption | refine Below.drew ?_ | refine below_drewN ?_ _ | refine Below.alloc ?_ (by first | omega | (simp <;> omega)) _ | refine Below.setCell ?_ (by first | omega | (simp <;> omega)) _))⟩
    | true =>
      have H1 := Lib.hid h1
      obtain ⟨a0, a1⟩ := inB_iff.1 h1
      by_cases hz : n = 0
      · have F := Lib.hid (ft_none hok h1 (by rw [hl.out]; exact hz))
        clear hok h1
        subst hz
        go_wp2_with (first | (go_at_call 28; with_reducible refine (l00In_any _ _ _ _).mono ?_; rw [H1.out]; rintro e w' ⟨rfl, rfl⟩))
        refine bodyPost_ret (v := .tuple #[.agg #[.slice none 0 0], .int .i64 6]) (by simp [results, Try.results15, go_sem, r0]) rfl ⟨none, 0, 0, [], by rw [F.out.2], NS.kept4 _ F.out.1, (by repeat (first | exact Below.refl _ _ | assumption | refine Below.drew ?_ | refine below_drewN ?_ _ | refine Below.alloc ?_ (by first | omega | (simp <;> omega)) _ | refine Below.setCell ?_ (by first | omega | (simp <;> omega)) _))⟩
      · have F := Lib.hid (ft_ok hok h1 (by rw [hl.out]; exact hz))
        have hbk := bxI_ok hok (by rw [hl.out]; exact hz)
        obtain ⟨d0, d1⟩ := sideB_bd hbk
        have hbx2 := okB_box hbk
        obtain ⟨⟨b1, b2, b3, b4⟩, hbx⟩ : ∃ bx, bxI xs = bx := ⟨_, rfl⟩
        rw [hbx] at F hbk d0 d1 hbx2
        have HBX := Lib.hid hbx
        unfold okB at hbk
        dsimp only at hbk
        have z2 : ¬ (n : Int) = 0 := by omega
        have z4 : ((n : Int) == 0) = false := by simp; omega
        clear hok h1 hbx
        go_wp2_with (first | (go_at_call 28; with_reducible refine (l00In_any _ _ _ _).mono ?_; rw [H1.out]; rintro e w' ⟨rfl, rfl⟩) | (go_at_call 41; fail))
        with_reducible refine (l02All_ptr _ _ _ xs _ _ _ K0.cel HR.out Hok.out (by omega)).mono ?_
        rw [HBX.out]
        rintro e wc ⟨rfl, hb2⟩
        replace K0 := K0.on hb2
        replace R0 := R0.on hb2
        have HR2 := Lib.hid (HR.out.on hb2)
        replace hB := below_on hb2 hB
        clear e0 r0 f0 hb2
        go_wp2_with fail
        have J0 := Blk.new (wc) 64 #[.int .i64 b1, .int .i64 b2, .int .i64 b3, .int .i64 b4]
        have hbwd : Below (wc).heap.size (wc) ((wc).alloc (.cells #[.int .i64 b1, .int .i64 b2, .int .i64 b3, .int .i64 b4] 64)) := (Below.refl _ _).alloc (Nat.le_refl _) _
        replace K0 := K0.on hbwd
        replace R0 := R0.on hbwd
        generalize (wc).alloc (.cells #[.int .i64 b1, .int .i64 b2, .int .i64 b3, .int .i64 b4] 64) = wd at *
        have HR3 := Lib.hid (HR2.out.on hbwd)
        replace hB := below_on hbwd hB
        obtain ⟨j0, j1, j2, j3, _, _, _, _, zj⟩ := J0.four
        go_wp2_with fail
        with_reducible refine (l07Side_any _ _ _ _ _ hbx2).mono ?_
        rintro e wb ⟨rfl, hb4⟩
        generalize sideB (b1, b2, b3, b4) = sd at *
        replace K0 := K0.on hb4
        replace R0 := R0.on hb4
        replace J0 := J0.on hb4
        have HR4 := Lib.hid (HR3.out.on hb4)
        replace hB := below_on hb4 hB
        clear j0 j1 j2 j3 hb4 hbwd
        go_wp2_with fail
        with_reducible refine (l02Own_ptr _ _ _ xs _ _ _ K0.cel HR4.out Hok.out).mono ?_
        rintro e w2 ⟨A2, c2, hs2, rfl, NS2, hb2⟩
        have HN2 := Lib.hid NS2
        have hzw := hB.size
        have hz2 := hb2.size
        have zwb := R0.lt
        replace R0 := R0.on hb2
        replace J0 := J0.on hb2
        replace hB := below_on hb2 hB
        clear NS2 hb2 z3
        go_wp2_with fail
        have K8 := Blk.new (w2) 28 #[.slice A2 n c2]
        have hbw3 : Below (w2).heap.size (w2) ((w2).alloc (.cells #[.slice A2 n c2] 28)) := (Below.refl _ _).alloc (Nat.le_refl _) _
        replace R0 := R0.on hbw3
        replace J0 := J0.on hbw3
        generalize (w2).alloc (.cells #[.slice A2 n c2] 28) = w3 at *
        replace hB := below_on hbw3 hB
        have HN := Lib.hid (HN2.out.on hbw3)
        have e9 := hbw3.size
        clear hbw3 K0
        generalize wc.heap.size = gk at *
        clear e9
        go_loopw [9] (fun i wr => ∃ k : Nat, k ≤ n ∧ i = .int .i64 k ∧ Below w.heap.size w wr ∧ w3.heap.size ≤ wr.heap.size ∧ Blk wr w2.heap.size 28 #[.slice A2 n c2] ∧ Blk wr (w.heap.size + 1) 28 #[.slice none 0 0] ∧ Hid (NS wr wb.heap.size 52 54 A2 n c2 hs2 (curI (ftP (b1, b2, b3, b4) sd side) xs k)) ∧ Blk wr gk 64 #[.int .i64 b1, .int .i64 b2, .int .i64 b3, .int .i64 b4]) (fun i _ => n - (intOf i).toNat)
        case atStart => exact ⟨0, by omega, rfl, hB, Nat.le_refl _, K8, R0, by rw [curI_zero]; exact HN.out, J0⟩
        case round =>
          clear K8 R0 hB HN J0
          obtain ⟨k, hk, rfl, hB, hz3, K8, R0, hN, J0⟩ := hrel
          have z8 := K8.lt
          obtain ⟨e8, _, _⟩ := K8.one
          by_cases hlt : k < n
          · obtain ⟨x, hxx⟩ : ∃ x, xs[k]? = some x := ⟨_, List.getElem?_eq_getElem (by rw [hl.out]; exact hlt)⟩
            obtain ⟨q, hq⟩ : ∃ q, hs2[k]? = some q := ⟨_, List.getElem?_eq_getElem (by rw [hN.out.l]; exact hlt)⟩
            have hst := inkB_at Hok.out hxx
            have hsl := strokeB_len hst
            obtain ⟨hxl, hoq⟩ := hN.out.u k q x hq (curI_at hxx)
            obtain ⟨qa, qn, qc⟩ := q
            simp only at hxl hoq
            subst hxl
            obtain ⟨g9, rfl, hg90, hg91⟩ := own_at hoq (by omega)
            obtain ⟨g2, rfl, hg20, hg21⟩ := own_at hN.out.o (by omega)
            have e7 : wr.cell? ⟨g2, k, none⟩ = some (.slice (some ⟨g9, 0, none⟩) x.length qc) := by
              have h9 := hN.out.o.cellAt (k * 1 + 0) (by omega)
              rw [flat_get cS_len hs2 k 0 _ hq (by omega)] at h9
              simpa [cS] using h9
            have i1 : (k : Int) < (n : Int) := by omega
            have i2 : (0 : Int) ≤ (k : Int) := by omega
            have HQ := Lib.hid hq
            have HXX := Lib.hid hxx
            have HOQ := Lib.hid hoq
            have hcap : x.length ≤ 9223372036854775807 := by omega
            have hbz := hB.size
            clear hq hoq
            go_wp2_with fail
            obtain ⟨wo, rfl⟩ : ∃ wo, wo = wr := ⟨_, rfl⟩
            clear e7 e8
            go_loopw [11] (fun i wi => ∃ m : Nat, m ≤ x.length ∧ i = .int .i64 m ∧ wo.grownBy wi (some g9) ∧ Hid (wi.ownsRow wb.heap.size 54 3 (.slice (some ⟨g9, 0, none⟩) x.length qc) x.length ((cur1 (ftP (b1, b2, b3, b4) sd side) x m).flatMap c3))) (fun i _ => x.length - (intOf i).toNat)
            case atStart => exact ⟨0, by omega, rfl, World.grownBy.refl _ _, by rw [cur1_zero]; exact HOQ.out⟩
            case round =>
              obtain ⟨wi, rfl⟩ : ∃ wi, wi = wr := ⟨_, rfl⟩
              obtain ⟨m, hm, rfl, hgr, hO⟩ := hrel
              by_cases hlm : m < x.length
              · obtain ⟨⟨px, py, pt⟩, hp⟩ : ∃ p, x[m]? = some p := ⟨_, List.getElem?_eq_getElem hlm⟩
                have hpb := pt_in hst hp
                simp only at hpb
                have hcl : ((x.take m).map (ftP (b1, b2, b3, b4) sd side)).length = m := by rw [List.length_map, List.length_take]; omega
                have hO2 : Hid (wi.ownsRow wb.heap.size 54 3 (.slice (some ⟨g9, 0, none⟩) x.length qc) x.length (((x.take m).map (ftP (b1, b2, b3, b4) sd side) ++ (px, py, pt) :: x.drop (m + 1)).flatMap c3)) := by show World.ownsRow _ _ _ _ _ _ _; rw [← cur1_at hp]; exact hO.out
                obtain ⟨bb, of2, ax, ay, at_, he, hbl3, hp2, r0, r1, r2⟩ := (RdL.of_own (cur1_len (ftP (b1, b2, b3, b4) sd side) x m) hO.out).at3 hlm
                cases he
                have hpe : (ax, ay, at_) = (px, py, pt) := by
                  have h9 := hp2.out
                  rw [cur1_at hp, List.getElem?_append_right (by omega), hcl, Nat.sub_self] at h9
                  simpa using h9.symm
                cases hpe
                simp only [Nat.zero_add] at r0 r1 r2
                have HPP := Lib.hid hp
                have j1 : (m : Int) < (x.length : Int) := by omega
                have j2 : (0 : Int) ≤ (m : Int) := by omega
                have zi := hgr.size
                have hpi := bxI_in (j := k) (x := x) (p := (px, py, pt)) HXX.out (List.mem_of_getElem? hp)
                rw [HBX.out] at hpi
                unfold inBx at hpi
                dsimp only at hpi
                obtain ⟨m0, m1⟩ := mul_pos_le (a := px - b1) (b := side) 4095 4095 (by omega) (by omega) (by omega) (by omega)
                obtain ⟨k0, k1⟩ := mul_pos_le (a := py - b2) (b := side) 4095 4095 (by omega) (by omega) (by omega) (by omega)
                obtain ⟨ix, hix⟩ : ∃ im, (px - b1) * side = im := ⟨_, rfl⟩
                obtain ⟨iy, hiy⟩ : ∃ im, (py - b2) * side = im := ⟨_, rfl⟩
                rw [hix] at m0 m1
                rw [hiy] at k0 k1
                have HPG : Hid (ftP (b1, b2, b3, b4) sd side (px, py, pt) = (nearD ix sd, nearD iy sd, pt)) := by show _ = _; unfold ftP; simp only [hix, hiy]
                have o1 : IntKind.i64.wrap (px - b1) = px - b1 := IntWalk.i64_in _ (by omega)
                have o2 : IntKind.i64.wrap ((px - b1) * side) = ix := by rw [hix]; exact IntWalk.i64_in _ (by omega)
                have o3 : IntKind.i64.wrap (py - b2) = py - b2 := IntWalk.i64_in _ (by omega)
                have o4 : IntKind.i64.wrap ((py - b2) * side) = iy := by rw [hiy]; exact IntWalk.i64_in _ (by omega)
                have Z1 := Lib.hid (fun W => l05Near_any ix sd W (by omega) (by omega) (by omega) (by omega))
                have Z2 := Lib.hid (fun W => l05Near_any iy sd W (by omega) (by omega) (by omega) (by omega))
                clear hix hiy m0 m1 k0 k1 hpi
                clear hp hp2 hO
                go_wp2_with fail
                clear r0 r1 r2
                have KP := Blk.new (wi) 54 #[.int .i64 px, .int .i64 py, .int .i64 pt]
                have hbwj : Below (wi).heap.size (wi) ((wi).alloc (.cells #[.int .i64 px, .int .i64 py, .int .i64 pt] 54)) := (Below.refl _ _).alloc (Nat.le_refl _) _
                generalize (wi).alloc (.cells #[.int .i64 px, .int .i64 py, .int .i64 pt] 54) = wj at *
                have HJ := Lib.hid (own_below hO2.out hbwj)
                obtain ⟨⟨v0, y0⟩, f0⟩ := own_cell HJ.out (j := m * 3) (by omega)
                obtain ⟨⟨v1, y1⟩, f1⟩ := own_cell HJ.out (j := m * 3 + 1) (by omega)
                obtain ⟨⟨v2, y2⟩, f2⟩ := own_cell HJ.out (j := m * 3 + 2) (by omega)
                obtain ⟨p0, p1, p2, zp⟩ := KP.three
                have hg9j := (HJ.out.lt g9 rfl).2
                have ne1 : ¬ wi.heap.size = g9 := by omega
                have ne1r : ¬ g9 = wi.heap.size := by omega
                have hgj := Lib.hid (grown_belowI hgr hbwj)
                have hgk9 : ¬ gk = g9 := fun h9 => own_blk_neI HOQ.out J0 (by decide) (by rw [h9]; rfl)
                have hgk9r : ¬ g9 = gk := fun h9 => hgk9 h9.symm
                have J9 := (J0.grownI HOQ.out hgr (by decide)).on hbwj
                obtain ⟨q0, q1, _, _, _, _, _, _, zq⟩ := J9.four
                go_wp2_with fail
                go_region_held3 (fun w' => w'.cell? ⟨wi.heap.size, 0, none⟩ = some (.int .i64 px) ∧ w'.cell? ⟨wi.heap.size, 1, none⟩ = some (.int .i64 py) ∧ w'.cell? ⟨wi.heap.size, 2, none⟩ = some (.int .i64 pt) ∧ w'.cell? ⟨gk, 0, none⟩ = some (.int .i64 b1) ∧ w'.cell? ⟨gk, 1, none⟩ = some (.int .i64 b2)) (first | exact ⟨p0, p1, p2, q0, q1⟩ | go_keep) (first | (go_at_call 30; (first | with_reducible refine (Z1.out _).mono ?_ | with_reducible refine (Z2.out _).mono ?_); rintro e w7 ⟨rfl, rfl⟩))
                go_wp2
                refine ⟨⟨m + 1, by omega, by go_num, grown_drewI (only_setCell (only_setCell (only_setCell hgj.out (.inl rfl) _) (.inl rfl) _) (.inl rfl) _), ?_⟩, by simp [intOf]; omega⟩
                have h9 := put3I HJ.out hcl (nearD ix sd, nearD iy sd, pt)
                rw [← HPG.out, cur1_step HPP.out] at h9
                rw [HPG.out] at h9
                exact h9
              · have hmn : m = x.length := by omega
                subst hmn
                have hO2 := hO.out
                rw [cur1_all rfl] at hO2
                have HN2 := Lib.hid (NS.row hN.out (by decide) HQ.out hgr hO2 (by rw [List.length_map]))
                have K82 := K8.grownI HOQ.out hgr (by decide)
                have R02 := R0.grownI HOQ.out hgr (by decide)
                have J02 := J0.grownI HOQ.out hgr (by decide)
                have hB2 : Below w.heap.size w wi := hB.grown hgr hbz (fun k9 hk9 => by cases hk9; omega)
                have zi := hgr.size
                have HXS : Hid ((curI (ftP (b1, b2, b3, b4) sd side) xs k).set k (x.map (ftP (b1, b2, b3, b4) sd side)) = curI (ftP (b1, b2, b3, b4) sd side) xs (k + 1)) := curI_step HXX.out
                clear hO hO2 hN
                go_wp2
                exact ⟨⟨k + 1, by omega, by go_num, hB2, by omega, K82, R02, by rw [← HXS.out]; exact HN2.out, J02⟩, by simp [intOf]; omega⟩
          · have hkn : k = n := by omega
            subst hkn
            have HN2 : Hid (NS wr wb.heap.size 52 54 A2 k c2 hs2 (mpI (ftP (b1, b2, b3, b4) sd side) xs)) := by show NS _ _ _ _ _ _ _ _ _; rw [← curI_all hl.out]; exact hN.out
            obtain ⟨r0, f0, z9⟩ := R0.one
            have hzb := hB.size
            clear hN
            obtain ⟨k0, _, zk⟩ := K8.one
            go_wp2
            refine bodyPost_ret (v := .tuple #[.agg #[.slice A2 k c2], .int .i64 0]) (by simp [results, Try.results15, go_sem, r0]) rfl ⟨A2, k, c2, hs2, by rw [F.out.2], ?_, (by repeat (first | exact Below.refl _ _ | assumption | refine Below.drew ?_ | refine below_drewN ?_ _ | refine Below.alloc ?_ (by first | omega | (simp <;> omega)) _ | refine Below.setCell ?_ (by first | omega | (simp <;> omega)) _))⟩
            rw [F.out.1]
            exact (HN2.out.far (by simp only; omega) _).mono (by omega)
end Go.Proofs.Ytbfilhpgekgmbaa
