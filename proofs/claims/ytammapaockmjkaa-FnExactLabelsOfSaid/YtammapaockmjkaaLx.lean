/- LabelsOf: the program's, walked: the library's Sort and Compact over a row of the call's own. -/
import Derived.Test.YtammapaockmjkaaLv
import Derived.Test.YtammapaockmjkaaSh
import Derived.Test.YtammapaockmjkaaSq
import Derived.Sort.OwnSorted
import Derived.Lib.OwnBridge
import Derived.Lib.RowBridge
namespace Go.Proofs.Ytammapaockmjkaa
open Go.ChangeShapes Go.WideShapes Go.ChangeAt Go.RowKit
set_option linter.unusedVariables false
set_option linter.unusedSimpArgs false
theorem flat_b8 (zs : List SL8) : (zs.map b8).flatMap cs1 = zs.map encStr := by
  induction zs with
  | nil => rfl
  | cons a l ih => rw [List.map_cons, List.flatMap_cons, ih]; rfl
theorem sortOwn {base e g n cap : Nat} {zs : List SL8} {w : World} (h : w.ownsRow base e 1 (.slice (some ⟨g, 0, none⟩) n cap) n (zs.map encStr)) (hl : zs.length = n) (hn : n ≤ 1048576) :
    Calls Try.prog 118 #[.slice (some ⟨g, 0, none⟩) n cap] w fun r w' => r = .returned (.tuple #[]) ∧
      w'.ownsRow base e 1 (.slice (some ⟨g, 0, none⟩) n cap) n ((zs.mergeSort fun x y => decide (x ≤ y)).map encStr) ∧ Below base w w' := by
  rcases h.2 with ⟨e0, _⟩ | ⟨g', cap', cur, e0, hb, hg, h1, h2, h3, h4⟩
  · cases e0
  · cases e0
    subst hl
    refine (Try.slices_Sort_string g 0 cap zs w (holds_of_block hg (by simpa using h4)) (Array.getElem?_eq_some_iff.1 hg).1 (by omega)).mono ?_
    rintro r w' ⟨rfl, n9, os, rfl⟩
    exact ⟨rfl, ownsRow_sorted (by simp) hb hg h1 h2 h3, (Below.refl base w).grown (grownBy_sorted _) (by have := (Array.getElem?_eq_some_iff.1 hg).1; omega) (fun k hk => by cases hk; exact hb)⟩
theorem compOwn {base e g n cap : Nat} {zs : List SL8} {w : World} (h : w.ownsRow base e 1 (.slice (some ⟨g, 0, none⟩) n cap) n (zs.map encStr)) (hl : zs.length = n) (hn : n ≤ 1048576) :
    Calls Try.prog 119 #[.slice (some ⟨g, 0, none⟩) n cap] w fun r w' => r = .returned (.slice (some ⟨g, 0, none⟩) (Lib.compact zs).length cap) ∧
      w'.ownsRow base e 1 (.slice (some ⟨g, 0, none⟩) (Lib.compact zs).length cap) (Lib.compact zs).length ((Lib.compact zs).map encStr) ∧ Below base w w' := by
  obtain ⟨g', cap', e0, hb, hg, h1, h2, h3, h4⟩ := Lib.holds_of_ownsRow h (by simp)
  cases e0
  subst hl
  have hc := Lib.compact_length_le zs
  refine (Try.slices_Compact_string g 0 cap zs w h4 (by omega) (by omega)).mono ?_
  rintro r w' ⟨rfl, q, rfl⟩
  refine ⟨rfl, ?_, Lib.below_putRow (Below.refl base w) hb⟩
  have h9 := Lib.ownsRow_putRow (q := q) (k := (Lib.compact zs).length) (ys := Lib.compact zs ++ List.replicate (zs.length - (Lib.compact zs).length) []) h (by rw [List.length_append, List.length_replicate]; omega) hc
  rw [List.take_left'] at h9
  · exact h9
  · rfl
set_option maxHeartbeats 4000000 in
theorem iLabels_any (z : Int) (A : Option Addr) (m cb : Nat) (ts : List TV) (w : World) (hs : TL w w.heap.size A m cb ts) (hm : totT ts ≤ 1048576) :
    Calls Try.prog 61 #[.agg #[.int .i64 z, .slice A m cb]] w fun e w' => ∃ A' n' c', e = .returned (.tuple #[.slice A' n' c', .int .i64 (lbE z ts)]) ∧ w'.ownsRow w.heap.size 9 1 (.slice A' n' c') n' ((lbL z ts).flatMap cs1) ∧
      (lbL z ts).length = n' ∧ n' ≤ 1048576 ∧ Below w.heap.size w w' := by
  obtain ⟨i0, hi, hz0, hz1, hz2⟩ := info_parts (show (Try.prog.info? 9).map (fun i => (i.zero, i.size, i.bytes)) = some (some (.string ⟨#[]⟩), 1, 16) by kernel_rfl)
  have hl := Lib.hid hs.len
  have HM := Lib.hid hm
  clear hm
  cases h0 : storeB z ts with
  | false =>
    have F := Lib.hid (lb_bad h0)
    have H0 := Lib.hid h0
    clear h0
    go_enter Try.func61, Try.ntmps61
    go_wp2_with fail
    have K0 := Blk.new (w) 31 #[.int .i64 z, .slice A m cb]
    have hbv : Below (w).heap.size (w) ((w).alloc (.cells #[.int .i64 z, .slice A m cb] 31)) := (Below.refl _ _).alloc (Nat.le_refl _) _
    replace hs := hs.on hbv
    generalize (w).alloc (.cells #[.int .i64 z, .slice A m cb] 31) = v at *
    with_reducible refine (iValidStore_any z _ _ _ ts _ hs HM.out).mono ?_
    rintro e w1 ⟨rfl, hb1⟩
    rw [H0.out]
    clear hs
    go_wp2
    go_ret2
    rw [F.out.1, F.out.2]
    exact ⟨none, 0, 0, rfl, World.ownsRow_nil _ _ _ _, rfl, by decide, below_on hb1 hbv⟩
  | true =>
    have F := Lib.hid (lb_ok h0)
    have H0 := Lib.hid h0
    have hm40 : m ≤ 40 := by have h := storeB_len H0.out; rw [hl.out] at h; exact h
    clear h0
    go_enter Try.func61, Try.ntmps61
    go_wp2_with fail
    have K0 := Blk.new (w) 31 #[.int .i64 z, .slice A m cb]
    have hbv : Below (w).heap.size (w) ((w).alloc (.cells #[.int .i64 z, .slice A m cb] 31)) := (Below.refl _ _).alloc (Nat.le_refl _) _
    replace hs := hs.on hbv
    generalize (w).alloc (.cells #[.int .i64 z, .slice A m cb] 31) = v at *
    with_reducible refine (iValidStore_any z _ _ _ ts _ hs HM.out).mono ?_
    rintro e w1 ⟨rfl, hb1⟩
    rw [H0.out]
    replace hs := hs.on hb1
    have K1 := K0.on hb1
    replace hbv := below_on hb1 hbv
    have HS := Lib.hid hs
    have hzv := hbv.size
    have kc0 := K1.cell 0
    have kc1 := K1.cell 1
    simp only [List.getElem?_toArray, List.getElem?_cons_succ, List.getElem?_cons_zero] at kc0 kc1
    have kz := K1.lt
    clear hs K0 hb1
    go_wp2_with fail
    clear kc0 kc1 kz
    go_loopw [4, 13] (fun q i wr => ∃ (k c' : Nat) (A' : Option Addr), k ≤ m ∧ i = .int .i64 k ∧ q = .slice A' k c' ∧ Below w1.heap.size w1 wr ∧ Hid (wr.ownsRow w1.heap.size 9 1 (.slice A' k c') k (((lbs (ts.take k)).map b8).flatMap cs1))) (fun _ i _ => m - (intOf i).toNat)
    case atStart => exact ⟨0, 0, none, by omega, rfl, rfl, Below.refl _ _, World.ownsRow_nil _ _ _ _⟩
    case round =>
      obtain ⟨k, c', A', hk, rfl, rfl, hb, HW⟩ := hrel
      have hsz := hb.size
      by_cases hlt : k < m
      · obtain ⟨b, off, s, B', m', cb', x, rfl, hbl, hx, q0, q1, hx3⟩ := (HS.out.on hb).at_ hlt
        have i1 : (k : Int) < (m : Int) := by omega
        have i2 : (0 : Int) ≤ (k : Int) := by omega
        have hT : Hid ((lbs (ts.take (k + 1))).map b8 = (lbs (ts.take k)).map b8 ++ [s]) := by unfold Hid lbs; rw [take_succ_of hx.out]; simp [b8_back]
        have hbs : Below wr.heap.size wr (wr.alloc (.cells #[.string s, .slice B' m' cb'] 58)) := (by repeat (first | exact Below.refl _ _ | assumption | refine Below.drew ?_ | refine below_drewN ?_ _ | refine Below.alloc ?_ (by first | omega | (simp <;> omega)) _ | refine Below.setCell ?_ (by first | omega | (simp <;> omega)) _))
        have HB := Lib.hid hbs
        have HW2 := Lib.hid (own_below HW.out hbs)
        clear hx3 hbs
        go_wp2_with (at_builtin; with_reducible refine app_one _ cs1_len oneS1 rfl (.tmp 17) (.tmp 20) 38 rfl w1.heap.size 9 i0 _ Try.underlying38 hi hz0 hz1 hz2 rfl (by decide) (by decide) A' k c' ((lbs (ts.take k)).map b8) rfl (HW2.out.alloc _) (wr.heap.size + 1) 1 s rfl ?_ ?_ ?_ ?_)
        all_goals first | omega | (intro A2 c2 w4 (hw4 : (World.ownsRow _ _ _ _ _ _ _)) hbw4) | (intro j u hu; have h8 := Cell1s.new (wr.alloc (.cells #[.string s, .slice B' m' cb'] 58)) 9 s j u (by simpa using hu); simpa using h8) | (simp; omega)
        have hb4 : Below w1.heap.size w1 w4 := ((below_app hb HB.out hb.size).alloc (by simp; omega) _).trans hbw4
        clear hbw4 hb
        go_wp2
        exact ⟨⟨k + 1, c2, A2, by omega, by go_num, rfl, hb4, by unfold Hid; rw [hT.out]; exact own_eq hw4 (by simp)⟩, by simp [intOf]; omega⟩
      · have hkm : k = m := by omega
        subst hkm
        have hT : ts.take k = ts := List.take_of_length_le (by rw [hl.out]; exact Nat.le_refl _)
        rw [hT, flat_b8] at HW
        have hll : (lbs ts).length = k := by unfold lbs; rw [List.length_map]; exact hl.out
        by_cases h9 : k = 0
        · subst h9
          have hnil : lbs ts = [] := List.eq_nil_of_length_eq_zero hll
          have F1 : lbL z ts = [] := by rw [F.out.2, hnil, ← fold_sorted]; rfl
          go_wp2_with fail
          with_reducible refine (Try.slices_Sort_string_none A' c' _).mono ?_
          rintro e w2 ⟨rfl, rfl⟩
          go_wp2_with fail
          with_reducible refine (Try.slices_Compact_string_empty A' c' _).mono ?_
          rintro e w2 ⟨rfl, rfl⟩
          go_wp2
          go_ret2
          rw [F.out.1, F1]
          refine ⟨A', 0, c', rfl, own_mono (own_eq HW.out (by rw [hnil]; rfl)) (by omega), rfl, by omega, below_on hb hbv⟩
        · obtain ⟨g, rfl, hg0, hg1⟩ := own_at HW.out (by omega)
          have F1 : Hid (lbL z ts = (Lib.compact ((lbs ts).mergeSort fun x y => decide (x ≤ y))).map b8) := F.out.2
          have hlm : ((lbs ts).mergeSort fun x y => decide (x ≤ y)).length = k := by rw [List.length_mergeSort]; exact hll
          go_wp2_with fail
          with_reducible refine (sortOwn HW.out hll (by omega)).mono ?_
          rintro e w2 ⟨rfl, ho2, hb2⟩
          have O2 := Lib.hid ho2
          clear ho2 HW
          have hb3 := hb.trans hb2
          go_wp2_with fail
          with_reducible refine (compOwn O2.out hlm (by omega)).mono ?_
          rintro e w3 ⟨rfl, ho3, hb4⟩
          have O3 := Lib.hid ho3
          have hb5 := hb3.trans hb4
          have hcl := Lib.compact_length_le ((lbs ts).mergeSort fun x y => decide (x ≤ y))
          clear ho3 O2
          generalize Lib.compact ((lbs ts).mergeSort fun x y => decide (x ≤ y)) = zs at *
          go_wp2
          go_ret2
          rw [F.out.1, F1.out]
          refine ⟨_, _, _, rfl, own_mono (own_eq O3.out (flat_b8 _).symm) (by omega), by rw [List.length_map], by omega, below_on hb5 hbv⟩
end Go.Proofs.Ytammapaockmjkaa
