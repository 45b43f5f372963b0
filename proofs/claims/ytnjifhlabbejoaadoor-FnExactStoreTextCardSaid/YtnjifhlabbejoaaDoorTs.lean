/- Stores in the laws: measured, made, compared. -/
import Derived.Test.YtnjifhlabbejoaaDoorTl
import Derived.Test.YtnjifhlabbejoaaDoorMk
import Derived.Test.YtnjifhlabbejoaaDoorBx
import Derived.Deep.RegionHeld3
import Derived.IntWalk
namespace Go.Proofs.YtnjifhlabbejoaaDoor
open Go.ChangeShapes Go.WideShapes Go.ChangeAt Go.RowKit
set_option linter.unusedVariables false
set_option linter.unusedSimpArgs false
theorem szTemplate_yes (s : ByteArray) (A : Option Addr) (n c : Nat) (left : Int) (w : World) (hs : s.size ≤ 9223372036854775807) (hn : n ≤ 9223372036854775807) (h0 : 0 ≤ left) (h1 : left ≤ 1048576) (h : (s.size : Int) + n ≤ left) :
    Calls Tryd.prog 49 #[.agg #[.string s, .slice A n c], .int .i64 left] w fun e w' => e = .returned (.int .i64 (left - s.size - n)) ∧ Below w.heap.size w w' := by
  have o1 : IntKind.i64.wrap (left - (s.size : Int)) = left - (s.size : Int) := IntWalk.i64_in _ (by omega)
  have o2 : ¬ left - (s.size : Int) < 0 := by omega
  go_enter Tryd.func49, Tryd.ntmps49
  go_wp2_with fail
  clear o1
  with_reducible refine (szFeatS_yes _ _ _ _ _ (by omega) (by omega) (by omega) (by omega)).mono ?_
  rintro e w' ⟨rfl, rfl⟩
  have o3 : ¬ left - (s.size : Int) - (n : Int) < 0 := by omega
  go_wp2
  go_ret
  exact ⟨rfl, (by repeat (first | exact Below.refl _ _ | assumption | refine Below.drew ?_ | refine below_drewN ?_ _ | refine Below.alloc ?_ (by first | omega | (simp <;> omega)) _ | refine Below.setCell ?_ (by first | omega | (simp <;> omega)) _))⟩
theorem szTemplate_no (s : ByteArray) (A : Option Addr) (n c : Nat) (left : Int) (w : World) (hs : s.size ≤ 9223372036854775807) (hn : n ≤ 9223372036854775807) (h0 : 0 ≤ left) (h1 : left ≤ 1048576) (h : left < (s.size : Int) + n) :
    Calls Tryd.prog 49 #[.agg #[.string s, .slice A n c], .int .i64 left] w fun e w' => e = .returned (.int .i64 (-1)) ∧ Below w.heap.size w w' := by
  have o1 : IntKind.i64.wrap (left - (s.size : Int)) = left - (s.size : Int) := IntWalk.i64_in _ (by omega)
  by_cases hf : (s.size : Int) ≤ left
  · have o2 : ¬ left - (s.size : Int) < 0 := by omega
    go_enter Tryd.func49, Tryd.ntmps49
    go_wp2_with fail
    clear o1
    with_reducible refine (szFeatS_no _ _ _ _ _ (by omega) (by omega) (by omega) (by omega)).mono ?_
    rintro e w' ⟨rfl, rfl⟩
    go_wp2
    go_ret
    exact ⟨rfl, (by repeat (first | exact Below.refl _ _ | assumption | refine Below.drew ?_ | refine below_drewN ?_ _ | refine Below.alloc ?_ (by first | omega | (simp <;> omega)) _ | refine Below.setCell ?_ (by first | omega | (simp <;> omega)) _))⟩
  · have o2 : left - (s.size : Int) < 0 := by omega
    go_enter Tryd.func49, Tryd.ntmps49
    go_wp2
    go_ret
    exact ⟨rfl, (by repeat (first | exact Below.refl _ _ | assumption | refine Below.drew ?_ | refine below_drewN ?_ _ | refine Below.alloc ?_ (by first | omega | (simp <;> omega)) _ | refine Below.setCell ?_ (by first | omega | (simp <;> omega)) _))⟩
set_option maxHeartbeats 4000000 in
theorem szTemplateS_any (A : Option Addr) (n c : Nat) (xs : List TV) (left : Int) (w : World) (hr : TL w w.heap.size A n c xs) (hg : ∀ x ∈ xs, x.1.size ≤ maxLen) (h0 : 0 ≤ left) (h1 : left ≤ 1048576) :
    Calls Tryd.prog 30 #[.slice A n c, .int .i64 left] w fun e w' => e = .returned (.int .i64 (szW xs left)) ∧ Below w.heap.size w w' := by
  have hl := Lib.hid hr.len
  have HG := Lib.hid hg
  clear hg
  have hcap : n ≤ 9223372036854775807 := Nat.le_trans hr.cap hr.capm
  have o1 : IntKind.i64.wrap (left - (n : Int)) = left - (n : Int) := IntWalk.i64_in _ (by omega)
  by_cases hbig : (n : Int) ≤ left
  · have o2 : ¬ left - (n : Int) < 0 := by omega
    go_enter Tryd.func30, Tryd.ntmps30
    go_wp2_with fail
    clear o1 o2
    go_loopw [1, 5] (fun lf i wr => ∃ k : Nat, k ≤ n ∧ i = .int .i64 k ∧ lf = .int .i64 (left - n - preT xs k) ∧ (preT xs k : Int) ≤ left - n ∧ Below w.heap.size w wr) (fun _ i _ => n - (intOf i).toNat)
    case atStart => exact ⟨0, by omega, rfl, by rw [preT_zero]; simp, by rw [preT_zero]; omega, Below.refl _ _⟩
    case round =>
      obtain ⟨k, hk, rfl, rfl, hp, hb⟩ := hrel
      by_cases hlt : k < n
      · obtain ⟨b, off, s, A', n', c', x, rfl, hbl, hx, q0, q1, hx3⟩ := (hr.below hb).at_ hlt
        have hcap' : n' ≤ 9223372036854775807 := Nat.le_trans hx3.cap hx3.capm
        have hss : s.size ≤ 9223372036854775807 := by have h := HG.out (s, x) (List.mem_of_getElem? hx.out); simpa [maxLen] using h
        have hst : Hid (preT xs (k + 1) = preT xs k + s.size + n') := by have h := preT_step hx.out; unfold szT at h; rw [hx3.len] at h; unfold Hid; rw [h]; simp only; omega
        have hto : Hid (n + preT xs k + s.size + n' ≤ totT xs) := by have h := totT_at hx.out; unfold szT at h; rw [hx3.len, hl.out] at h; unfold Hid; simp only at h; omega
        have i1 : (k : Int) < (n : Int) := by omega
        have i2 : (0 : Int) ≤ (k : Int) := by omega
        have hsz := hb.size
        replace hbl : b < wr.heap.size := by omega
        clear hr hx3 hx
        generalize preT xs k = pk at *
        by_cases hfit : (s.size : Int) + n' ≤ left - n - pk
        · go_wp2_with fail
          with_reducible refine (szTemplate_yes _ _ _ _ _ _ hss hcap' (by omega) (by omega) hfit).mono ?_
          rintro e w2 ⟨rfl, hbw2⟩
          have o3 : ¬ left - (n : Int) - (pk : Int) - (s.size : Int) - (n' : Int) < 0 := by omega
          go_wp2
          exact ⟨⟨k + 1, by omega, by go_num, by rw [hst.out]; congr 1; omega, by rw [hst.out]; omega, below_app hb hbw2 hb.size⟩, by simp [intOf]; omega⟩
        · have F : Hid (szW xs left = -1) := szW_no (by have := hto.out; omega)
          go_wp2_with fail
          with_reducible refine (szTemplate_no _ _ _ _ _ _ hss hcap' (by omega) (by omega) (by omega)).mono ?_
          rintro e w2 ⟨rfl, hbw2⟩
          go_wp2
          go_ret
          exact ⟨ret_int F.out.symm, below_app hb hbw2 hb.size⟩
      · have hkn : k = n := by omega
        subst hkn
        have F : Hid (szW xs left = left - k - preT xs k) := by
          have h9 : preT xs k = (xs.map szT).sum := preT_all (by rw [hl.out]; omega)
          have h8 : totT xs = k + preT xs k := by unfold totT; rw [hl.out, h9]
          show _ = _
          rw [szW_yes (by omega), h8]; omega
        clear hr
        go_wp2
        go_ret
        exact ⟨ret_int F.out.symm, hb⟩
  · have o2 : left - (n : Int) < 0 := by omega
    have F : Hid (szW xs left = -1) := szW_no (by have h := totT_len xs; rw [hl.out] at h; omega)
    clear hr
    go_enter Tryd.func30, Tryd.ntmps30
    go_wp2
    go_ret
    exact ⟨ret_int F.out.symm, Below.refl _ _⟩
theorem szStore_yes (z : Int) (A : Option Addr) (n c : Nat) (xs : List TV) (left : Int) (w : World) (hr : TL w w.heap.size A n c xs) (hg : ∀ x ∈ xs, x.1.size ≤ maxLen) (h0 : 0 ≤ left) (h1 : left ≤ 1048576) (h : (totT xs : Int) ≤ left) :
    Calls Tryd.prog 15 #[.agg #[.int .i64 z, .slice A n c], .int .i64 left] w fun e w' => e = .returned (.int .i64 (left - totT xs)) ∧ Below w.heap.size w w' := by
  have hB : Below w.heap.size w (w.alloc (.cells #[.int .i64 z, .slice A n c] 35)) := (by repeat (first | exact Below.refl _ _ | assumption | refine Below.drew ?_ | refine below_drewN ?_ _ | refine Below.alloc ?_ (by first | omega | (simp <;> omega)) _ | refine Below.setCell ?_ (by first | omega | (simp <;> omega)) _))
  have HG := Lib.hid hg
  have F : Hid (szW xs left = left - totT xs) := szW_yes h
  have o2 : ¬ left - (totT xs : Int) < 0 := by omega
  clear hg
  go_enter Tryd.func15, Tryd.ntmps15
  go_wp2_with fail
  with_reducible refine (szTemplateS_any _ _ _ xs _ _ (hr.on hB) HG.out h0 h1).mono ?_
  rw [F.out]
  rintro e w' ⟨rfl, hbw'⟩
  replace hB := below_on hbw' hB
  go_wp2
  go_ret
  exact ⟨rfl, hB⟩
theorem szStore_no (z : Int) (A : Option Addr) (n c : Nat) (xs : List TV) (left : Int) (w : World) (hr : TL w w.heap.size A n c xs) (hg : ∀ x ∈ xs, x.1.size ≤ maxLen) (h0 : 0 ≤ left) (h1 : left ≤ 1048576) (h : left < (totT xs : Int)) :
    Calls Tryd.prog 15 #[.agg #[.int .i64 z, .slice A n c], .int .i64 left] w fun e w' => e = .returned (.int .i64 (-1)) ∧ Below w.heap.size w w' := by
  have hB : Below w.heap.size w (w.alloc (.cells #[.int .i64 z, .slice A n c] 35)) := (by repeat (first | exact Below.refl _ _ | assumption | refine Below.drew ?_ | refine below_drewN ?_ _ | refine Below.alloc ?_ (by first | omega | (simp <;> omega)) _ | refine Below.setCell ?_ (by first | omega | (simp <;> omega)) _))
  have HG := Lib.hid hg
  have F : Hid (szW xs left = -1) := szW_no h
  clear hg
  go_enter Tryd.func15, Tryd.ntmps15
  go_wp2_with fail
  with_reducible refine (szTemplateS_any _ _ _ xs _ _ (hr.on hB) HG.out h0 h1).mono ?_
  rw [F.out]
  rintro e w' ⟨rfl, hbw'⟩
  replace hB := below_on hbw' hB
  go_wp2
  go_ret
  exact ⟨rfl, hB⟩
theorem eqTemplate_yes (s : ByteArray) (A A' : Option Addr) (n c n' c' : Nat) (xs : List T3) (w : World) (hr : RdL c3 3 w w.heap.size A n c xs) (hr' : RdL c3 3 w w.heap.size A' n' c' xs) (hn : n ≤ 1048576) :
    Calls Tryd.prog 59 #[.agg #[.string s, .slice A n c], .agg #[.string s, .slice A' n' c']] w fun e w' => e = .returned (.bool true) ∧ Below w.heap.size w w' := by
  have hB : Below w.heap.size w ((w.alloc (.cells #[.string s, .slice A n c] 71)).alloc (.cells #[.string s, .slice A' n' c'] 71)) := (by repeat (first | exact Below.refl _ _ | assumption | refine Below.drew ?_ | refine below_drewN ?_ _ | refine Below.alloc ?_ (by first | omega | (simp <;> omega)) _ | refine Below.setCell ?_ (by first | omega | (simp <;> omega)) _))
  go_enter Tryd.func59, Tryd.ntmps59
  go_wp2_with fail
  with_reducible refine (eqFeatS_yes _ _ _ _ _ _ xs _ (hr.on hB) (hr'.on hB) hn).mono ?_
  rintro e w1 ⟨rfl, hbw1⟩
  go_wp2
  go_ret
  exact ⟨rfl, below_on hbw1 hB⟩
set_option maxHeartbeats 4000000 in
theorem eqTemplateS_yes (A A2 : Option Addr) (n c n2 c2 : Nat) (xs : List TV) (w : World) (hr : TL w w.heap.size A n c xs) (hr' : TL w w.heap.size A2 n2 c2 xs) (hn : totT xs ≤ 1048576) :
    Calls Tryd.prog 38 #[.slice A n c, .slice A2 n2 c2] w fun e w' => e = .returned (.bool true) ∧ Below w.heap.size w w' := by
  have hl := Lib.hid hr.len
  have hnn : n2 = n := by rw [← hr.len, ← hr'.len]
  subst hnn
  have hcap : n2 ≤ 9223372036854775807 := Nat.le_trans hr.cap hr.capm
  go_enter Tryd.func38, Tryd.ntmps38
  go_wp2_with fail
  go_loopw [5] (fun i wr => ∃ k : Nat, k ≤ n2 ∧ i = .int .i64 k ∧ Below w.heap.size w wr) (fun i _ => n2 - (intOf i).toNat)
  case atStart => exact ⟨0, by omega, rfl, Below.refl _ _⟩
  case round =>
    obtain ⟨k, hk, rfl, hb⟩ := hrel
    by_cases hlt : k < n2
    · obtain ⟨b, off, s, A', n', c', x, rfl, hbl, hx, q0, q1, hx3⟩ := (hr.on hb).at_ hlt
      obtain ⟨b2, off2, s2, B', m', d', x', rfl, hbl2, hx', p0, p1, hx4⟩ := (hr'.on hb).at_ hlt
      have hxx : (s2, x') = (s, x) := by have h1 := hx.out; rw [hx'.out] at h1; exact Option.some.inj h1
      cases hxx
      have i1 : (k : Int) < (n2 : Int) := by omega
      have i2 : (0 : Int) ≤ (k : Int) := by omega
      have hxn : n' ≤ 1048576 := by have h := (totT_mem hx.out hn).2; rw [hx3.len] at h; omega
      have hsz := hb.size
      have HX3 := Lib.hid hx3
      have HX4 := Lib.hid hx4
      clear hr hr' hx3 hx4
      go_wp2_with fail
      go_region_held3 (fun w' => (∀ b o, b < wr.heap.size → w'.cell? ⟨b, o, none⟩ = wr.cell? ⟨b, o, none⟩) ∧ Below wr.heap.size wr w') (first | exact sk (Below.refl _ _).drew | (go_split_ands; exact sk (below_app ‹_› hbw2 (Below.size ‹_›)))) (first | (go_at_call 59; with_reducible refine (eqTemplate_yes _ _ _ _ _ _ _ x _ (HX3.out.on (Below.refl _ _).drew) (HX4.out.on (Below.refl _ _).drew) hxn).mono ?_; rintro e w2 ⟨rfl, hbw2⟩))
      go_split_ands
      have hb3 : Below w.heap.size w w2 := below_app hb ‹Below wr.heap.size wr w2› hb.size
      go_wp2
      exact ⟨⟨k + 1, by omega, by go_num, hb3⟩, by simp [intOf]; omega⟩
    · clear hr hr'
      go_wp2
      go_ret
      exact ⟨rfl, hb⟩
theorem eqStore_yes (z : Int) (A A' : Option Addr) (n c n' c' : Nat) (xs : List TV) (w : World) (hr : TL w w.heap.size A n c xs) (hr' : TL w w.heap.size A' n' c' xs) (hn : totT xs ≤ 1048576) :
    Calls Tryd.prog 19 #[.agg #[.int .i64 z, .slice A n c], .agg #[.int .i64 z, .slice A' n' c']] w fun e w' => e = .returned (.bool true) ∧ Below w.heap.size w w' := by
  have hB : Below w.heap.size w ((w.alloc (.cells #[.int .i64 z, .slice A n c] 40)).alloc (.cells #[.int .i64 z, .slice A' n' c'] 40)) := (by repeat (first | exact Below.refl _ _ | assumption | refine Below.drew ?_ | refine below_drewN ?_ _ | refine Below.alloc ?_ (by first | omega | (simp <;> omega)) _ | refine Below.setCell ?_ (by first | omega | (simp <;> omega)) _))
  go_enter Tryd.func19, Tryd.ntmps19
  go_wp2_with fail
  with_reducible refine (eqTemplateS_yes _ _ _ _ _ _ xs _ (hr.on hB) (hr'.on hB) hn).mono ?_
  rintro e w1 ⟨rfl, hbw1⟩
  go_wp2
  go_ret
  exact ⟨rfl, below_on hbw1 hB⟩
set_option maxHeartbeats 1000000 in
theorem toTemplate_any (s : ByteArray) (A : Option Addr) (n c : Nat) (xs : List T3) (w : World) (hr : RdL c3 3 w w.heap.size A n c xs) (hn : n ≤ 1048576) :
    Calls Tryd.prog 52 #[.agg #[.string s, .slice A n c]] w fun e w' => ∃ g, e = .returned (.agg #[.string s, .slice (some ⟨g, 0, none⟩) n n]) ∧ w'.ownsRow w.heap.size 50 3 (.slice (some ⟨g, 0, none⟩) n n) n (xs.flatMap c3) ∧ Below w.heap.size w w' := by
  go_enter Tryd.func52, Tryd.ntmps52
  go_wp2_with fail
  have P0 : Blk (((w.alloc (.cells #[.string s, .slice A n c] 87)).alloc (.cells #[.string ⟨#[]⟩, .slice none 0 0] 71)).alloc (.cells #[.string s, .slice none 0 0] 71)) (w.heap.size) 87 #[.string s, .slice A n c] := by have hk := ((Blk.new w 87 #[.string s, .slice A n c]).alloc (.cells #[.string ⟨#[]⟩, .slice none 0 0] 71)).alloc (.cells #[.string s, .slice none 0 0] 71); simpa using hk
  have K0 : Blk (((w.alloc (.cells #[.string s, .slice A n c] 87)).alloc (.cells #[.string ⟨#[]⟩, .slice none 0 0] 71)).alloc (.cells #[.string s, .slice none 0 0] 71)) (w.heap.size + 1) 71 #[.string ⟨#[]⟩, .slice none 0 0] := by have hk := (Blk.new (w.alloc (.cells #[.string s, .slice A n c] 87)) 71 #[.string ⟨#[]⟩, .slice none 0 0]).alloc (.cells #[.string s, .slice none 0 0] 71); simpa using hk
  have J0 : Blk (((w.alloc (.cells #[.string s, .slice A n c] 87)).alloc (.cells #[.string ⟨#[]⟩, .slice none 0 0] 71)).alloc (.cells #[.string s, .slice none 0 0] 71)) (w.heap.size + 1 + 1) 71 #[.string s, .slice none 0 0] := by have hk := Blk.new ((w.alloc (.cells #[.string s, .slice A n c] 87)).alloc (.cells #[.string ⟨#[]⟩, .slice none 0 0] 71)) 71 #[.string s, .slice none 0 0]; simpa using hk
  have hbv : Below w.heap.size w (((w.alloc (.cells #[.string s, .slice A n c] 87)).alloc (.cells #[.string ⟨#[]⟩, .slice none 0 0] 71)).alloc (.cells #[.string s, .slice none 0 0] 71)) := (by repeat (first | exact Below.refl _ _ | assumption | refine Below.drew ?_ | refine below_drewN ?_ _ | refine Below.alloc ?_ (by first | omega | (simp <;> omega)) _ | refine Below.setCell ?_ (by first | omega | (simp <;> omega)) _))
  replace hr := hr.on hbv
  generalize (((w.alloc (.cells #[.string s, .slice A n c] 87)).alloc (.cells #[.string ⟨#[]⟩, .slice none 0 0] 71)).alloc (.cells #[.string s, .slice none 0 0] 71)) = v at *
  have zv := J0.lt
  with_reducible refine (toFeatS_any _ _ _ xs _ hr hn).mono ?_
  rintro e w1 ⟨rfl, o1, hb1⟩
  replace K0 := K0.on hb1
  replace J0 := J0.on hb1
  have hb := below_on hb1 hbv
  have k0 := K0.cell 0
  have k1 := K0.cell 1
  simp only [List.getElem?_toArray, List.getElem?_cons_succ, List.getElem?_cons_zero] at k0 k1
  have j0 := J0.cell 0
  have j1 := J0.cell 1
  simp only [List.getElem?_toArray, List.getElem?_cons_succ, List.getElem?_cons_zero] at j0 j1
  have f0 := K0.frozen 0
  have f1 := K0.frozen 1
  have g0 := J0.frozen 0
  have g1 := J0.frozen 1
  go_wp2
  refine bodyPost_ret (v := .agg #[.string s, .slice (some ⟨v.heap.size, 0, none⟩) n n]) (by simp [results, Tryd.results52, go_sem, k0, k1]) rfl ⟨v.heap.size, rfl, ?_, (by repeat (first | exact Below.refl _ _ | assumption | refine Below.drew ?_ | refine below_drewN ?_ _ | refine Below.alloc ?_ (by first | omega | (simp <;> omega)) _ | refine Below.setCell ?_ (by first | omega | (simp <;> omega)) _))⟩
  exact own_mono (ownsRow_setCell_below (ownsRow_setCell_below (ownsRow_setCell_below o1 (by simp only; omega) _) (by simp only; omega) _) (by simp only; omega) _) (by omega)
set_option maxRecDepth 100000 in
set_option maxHeartbeats 8000000 in
theorem toTemplateS_own (A : Option Addr) (n c : Nat) (xs : List TV) (w : World) (hr : TL w w.heap.size A n c xs) (hn : totT xs ≤ 1048576) :
    Calls Tryd.prog 33 #[.slice A n c] w fun e w' => ∃ hs : List HT, e = .returned (.slice (some ⟨w.heap.size, 0, none⟩) n n) ∧ w'.ownsRow w.heap.size 71 2 (.slice (some ⟨w.heap.size, 0, none⟩) n n) n (hs.flatMap cT) ∧ hs.length = n ∧
      TLo w' w.heap.size 50 hs xs ∧ TLd hs ∧ Below w.heap.size w w' := by
  obtain ⟨i0, hi, hz0, hz1, hz2⟩ := info_parts (show (Tryd.prog.info? 71).map (fun i => (i.zero, i.size, i.bytes)) = some (some (.agg #[.string ⟨#[]⟩, .slice none 0 0]), 2, 40) by kernel_rfl)
  have hl := Lib.hid hr.len
  have hnn : n ≤ 1048576 := by have h := totT_len xs; rw [hl.out] at h; omega
  have HN := Lib.hid hn
  clear hn
  go_enter Tryd.func33, Tryd.ntmps33
  go_wp2_with (refine wpList_make_full _ rfl _ _ _ rfl w.heap.size 71 i0 _ 2 Tryd.underlying38 hi hz0 hz1 .i64 .i64 n n n rfl rfl rfl rfl (by rw [hz2]; omega) (by unfold maxLen; omega) (Nat.le_refl _) ?_; intro w1 hown hg)
  rw [show (Value.agg #[.string ⟨#[]⟩, .slice none 0 0]).cells = #[.string ⟨#[]⟩, .slice none 0 0] from rfl, made_two] at hown
  have hB1 : Below w.heap.size w w1 := (Below.refl _ _).grown hg (Nat.le_refl _) (fun k h => by cases h)
  clear hg
  go_loopw [4] (fun i wr => ∃ (k : Nat) (hs : List HT), k ≤ n ∧ i = .int .i64 k ∧ Hid (hs.length = k) ∧ Below w.heap.size w wr ∧
      wr.ownsRow w.heap.size 71 2 (.slice (some ⟨w.heap.size, 0, none⟩) n n) n (hs.flatMap cT ++ rep2 (n - k) (.string ⟨#[]⟩) (.slice none 0 0)) ∧ Hid (TLo wr (w.heap.size + 1) 50 hs xs) ∧ Hid (TLd hs)) (fun i _ => n - (intOf i).toNat)
  case atStart => exact ⟨0, [], by omega, rfl, rfl, hB1, by simpa using hown, (fun k q x h => by simp at h), TLd.nil⟩
  case round =>
    obtain ⟨k, hs, hk, rfl, hhl, hb, hw, ho, hdj⟩ := hrel
    clear hown hB1
    by_cases hlt : k < n
    · obtain ⟨b, off, s, A', n', c', x, rfl, hbl, hx, q0, q1, hx3⟩ := (hr.below hb).at_ hlt
      obtain ⟨⟨v0, e0⟩, f0⟩ := own_cell hw (j := k * 2) (by omega)
      obtain ⟨⟨v1, e1⟩, f1⟩ := own_cell hw (j := k * 2 + 1) (by omega)
      have hgs := World.block_lt_of_cell? wr _ e0
      have i1 : (k : Int) < (n : Int) := by omega
      have i2 : (0 : Int) ≤ (k : Int) := by omega
      have hxn : n' ≤ 1048576 := by have h := (totT_mem hx.out HN.out).2; rw [hx3.len] at h; omega
      have hsz := hb.size
      have hxl := Lib.hid hx3.len
      replace hx3 := hx3.more hsz
      clear hr
      go_wp2_with fail
      with_reducible refine (toTemplate_any s _ _ _ x _ hx3 hxn).mono ?_
      rintro e w2 ⟨g', rfl, o2, hb2⟩
      have hw2 := own_below hw hb2
      have ho2 := Lib.hid (ho.out.on hb2)
      have e2 := (hb2.cell (p := ⟨w.heap.size, k * 2, none⟩) hgs).trans e0
      have e3 := (hb2.cell (p := ⟨w.heap.size, k * 2 + 1, none⟩) hgs).trans e1
      have f2 := (own_cell hw2 (j := k * 2) (by omega)).2
      have f3 := (own_cell hw2 (j := k * 2 + 1) (by omega)).2
      have hgs2 := hb2.size
      have HTP := Lib.hid (ho.out.top (by rw [hhl.out, hl.out]; omega))
      have hO2 := Lib.hid o2
      have hb3 := below_app hb hb2 hb.size
      have HW2 := Lib.hid hw2
      clear hx3 hw ho q0 q1 e0 e1 f0 f1 o2 hw2
      go_wp2
      have hlo : ∀ ad, (Value.slice (some ⟨g', 0, none⟩) n' n').ownBlock = some ad → wr.heap.size ≤ ad := fun ad h9 => (hO2.out.lt ad h9).1
      refine ⟨⟨k + 1, hs ++ [(s, some ⟨g', 0, none⟩, n', n')], by omega, by go_num, by show (hs ++ [_]).length = _; rw [List.length_append, hhl.out]; rfl, (by repeat (first | exact Below.refl _ _ | assumption | refine Below.drew ?_ | refine below_drewN ?_ _ | refine Below.alloc ?_ (by first | omega | (simp <;> omega)) _ | refine Below.setCell ?_ (by first | omega | (simp <;> omega)) _)), put2T HW2.out hhl.out hlt (s, some ⟨g', 0, none⟩, n', n'), ?_, ?_⟩, by simp [intOf]; omega⟩
      rotate_left
      · refine TLd.snoc hdj.out hhl.out (fun i h a a' hi ha ha' => ?_)
        have h8 := (HTP.out i h a hi ha).2
        have h9 := hlo a'.block (by cases ha'; rfl)
        omega
      have hfar : ∀ (j : Nat) (q : HT) (a : Addr), hs[j]? = some q → q.2.1 = some a → a.block ≠ w.heap.size := fun j q a hj ha => by
        have h8 := (HTP.out j q a hj ha).1
        omega
      refine TLo.snoc (TLo.far (TLo.far ho2.out (p := ⟨w.heap.size, k * 2, none⟩) hfar _) (p := ⟨w.heap.size, k * 2 + 1, none⟩) hfar _) hhl.out hx.out rfl hxl.out (own_mono (ownsRow_setCell_other (ownsRow_setCell_other hO2.out (fun h9 => ?_) _) (fun h9 => ?_) _) (by omega))
      · have := hlo _ h9; simp only at this; omega
      · have := hlo _ h9; simp only at this; omega
    · have hkn : k = n := by omega
      subst hkn
      clear hr
      go_wp2
      go_ret
      refine ⟨hs, rfl, by simpa [rep2] using hw, hhl.out, ho.out.mono (by omega), hdj.out, hb⟩
set_option maxHeartbeats 1000000 in
theorem toStore_any (z : Int) (A : Option Addr) (n c : Nat) (xs : List TV) (w : World) (hr : TL w w.heap.size A n c xs) (hn : totT xs ≤ 1048576) :
    Calls Tryd.prog 17 #[.agg #[.int .i64 z, .slice A n c]] w fun e w' => ∃ (g : Nat) (hs : List HT), e = .returned (.agg #[.int .i64 z, .slice (some ⟨g, 0, none⟩) n n]) ∧ w'.ownsRow w.heap.size 71 2 (.slice (some ⟨g, 0, none⟩) n n) n (hs.flatMap cT) ∧ hs.length = n ∧
      TLo w' w.heap.size 50 hs xs ∧ TLd hs ∧ Below w.heap.size w w' := by
  have HN := Lib.hid hn
  clear hn
  go_enter Tryd.func17, Tryd.ntmps17
  go_wp2_with fail
  have P0 : Blk (((w.alloc (.cells #[.int .i64 z, .slice A n c] 35)).alloc (.cells #[.int .i64 0, .slice none 0 0] 40)).alloc (.cells #[.int .i64 z, .slice none 0 0] 40)) (w.heap.size) 35 #[.int .i64 z, .slice A n c] := by have hk := ((Blk.new w 35 #[.int .i64 z, .slice A n c]).alloc (.cells #[.int .i64 0, .slice none 0 0] 40)).alloc (.cells #[.int .i64 z, .slice none 0 0] 40); simpa using hk
  have K0 : Blk (((w.alloc (.cells #[.int .i64 z, .slice A n c] 35)).alloc (.cells #[.int .i64 0, .slice none 0 0] 40)).alloc (.cells #[.int .i64 z, .slice none 0 0] 40)) (w.heap.size + 1) 40 #[.int .i64 0, .slice none 0 0] := by have hk := (Blk.new (w.alloc (.cells #[.int .i64 z, .slice A n c] 35)) 40 #[.int .i64 0, .slice none 0 0]).alloc (.cells #[.int .i64 z, .slice none 0 0] 40); simpa using hk
  have J0 : Blk (((w.alloc (.cells #[.int .i64 z, .slice A n c] 35)).alloc (.cells #[.int .i64 0, .slice none 0 0] 40)).alloc (.cells #[.int .i64 z, .slice none 0 0] 40)) (w.heap.size + 1 + 1) 40 #[.int .i64 z, .slice none 0 0] := by have hk := Blk.new ((w.alloc (.cells #[.int .i64 z, .slice A n c] 35)).alloc (.cells #[.int .i64 0, .slice none 0 0] 40)) 40 #[.int .i64 z, .slice none 0 0]; simpa using hk
  have hbv : Below w.heap.size w (((w.alloc (.cells #[.int .i64 z, .slice A n c] 35)).alloc (.cells #[.int .i64 0, .slice none 0 0] 40)).alloc (.cells #[.int .i64 z, .slice none 0 0] 40)) := (by repeat (first | exact Below.refl _ _ | assumption | refine Below.drew ?_ | refine below_drewN ?_ _ | refine Below.alloc ?_ (by first | omega | (simp <;> omega)) _ | refine Below.setCell ?_ (by first | omega | (simp <;> omega)) _))
  replace hr := hr.on hbv
  generalize (((w.alloc (.cells #[.int .i64 z, .slice A n c] 35)).alloc (.cells #[.int .i64 0, .slice none 0 0] 40)).alloc (.cells #[.int .i64 z, .slice none 0 0] 40)) = v at *
  have zv := J0.lt
  with_reducible refine (toTemplateS_own _ _ _ xs _ hr HN.out).mono ?_
  rintro e w1 ⟨hs, rfl, o1, hhl, ho, hd, hb1⟩
  replace K0 := K0.on hb1
  replace J0 := J0.on hb1
  have hb := below_on hb1 hbv
  have k0 := K0.cell 0
  have k1 := K0.cell 1
  simp only [List.getElem?_toArray, List.getElem?_cons_succ, List.getElem?_cons_zero] at k0 k1
  have j0 := J0.cell 0
  have j1 := J0.cell 1
  simp only [List.getElem?_toArray, List.getElem?_cons_succ, List.getElem?_cons_zero] at j0 j1
  have f0 := K0.frozen 0
  have f1 := K0.frozen 1
  have g0 := J0.frozen 0
  have g1 := J0.frozen 1
  have HO := Lib.hid ho
  have HD := Lib.hid hd
  have HHL := Lib.hid hhl
  clear ho hd hhl
  go_wp2
  refine bodyPost_ret (v := .agg #[.int .i64 z, .slice (some ⟨v.heap.size, 0, none⟩) n n]) (by simp [results, Tryd.results17, go_sem, k0, k1]) rfl ⟨v.heap.size, hs, rfl, ?_, HHL.out, ?_, HD.out, (by repeat (first | exact Below.refl _ _ | assumption | refine Below.drew ?_ | refine below_drewN ?_ _ | refine Below.alloc ?_ (by first | omega | (simp <;> omega)) _ | refine Below.setCell ?_ (by first | omega | (simp <;> omega)) _))⟩
  · exact own_mono (ownsRow_setCell_below (ownsRow_setCell_below (ownsRow_setCell_below o1 (by simp only; omega) _) (by simp only; omega) _) (by simp only; omega) _) (by omega)
  · exact TLo.mono (fun k q x h1 h2 => ⟨(HO.out k q x h1 h2).1, (HO.out k q x h1 h2).2.1, ownsRow_setCell_below (ownsRow_setCell_below (ownsRow_setCell_below (HO.out k q x h1 h2).2.2 (by simp only; omega) _) (by simp only; omega) _) (by simp only; omega) _⟩) (by omega)
end Go.Proofs.YtnjifhlabbejoaaDoor
