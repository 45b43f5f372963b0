/- Slices of strings in the laws: measured, made, compared, marked, read back. -/
import Derived.Test.YtammapaockmjkaaTl
import Derived.Test.YtammapaockmjkaaTx
import Derived.Test.YtammapaockmjkaaFe
import Derived.IntWalk
import Derived.Deep.RegionHeld3
import Derived.Deep.QuietTactic
import Derived.BigQuiet
namespace Go.Proofs.Ytammapaockmjkaa
open Go.ChangeShapes Go.WideShapes Go.ChangeAt Go.RowKit Go.Deep Go.Joins
set_option linter.unusedVariables false
set_option linter.unusedSimpArgs false
theorem oneS1 (x : ByteArray) : ∀ u ∈ cs1 x, u.oneCell' = true := by intro u hu; simp [cs1] at hu; subst hu; rfl
theorem RdL.atS {w : World} {B n c : Nat} {A : Option Addr} {xs : List ByteArray} (h : RdL cs1 1 w B A n c xs) {k : Nat} (hk : k < n) :
    ∃ b off x, A = some ⟨b, off, none⟩ ∧ b < B ∧ Hid (xs[k]? = some x) ∧ w.cell? ⟨b, off + k, none⟩ = some (.string x) := by
  obtain ⟨b, off, x, e, hb, hx, hc⟩ := RdL.at_ (f := cs1) (s := 1) (fun _ => rfl) h hk
  exact ⟨b, off, x, e, hb, hx, by have := hc 0 (.string x) (by decide) rfl; simpa using this⟩
def totS (xs : List ByteArray) : Nat := xs.length + (xs.map ByteArray.size).sum
def preS (xs : List ByteArray) (k : Nat) : Nat := ((xs.take k).map ByteArray.size).sum
theorem preS_step {xs : List ByteArray} {k : Nat} {x : ByteArray} (h : xs[k]? = some x) : preS xs (k + 1) = preS xs k + x.size := by
  unfold preS; rw [take_succ_of h]; simp
theorem preS_all {xs : List ByteArray} {k : Nat} (h : xs.length ≤ k) : preS xs k = (xs.map ByteArray.size).sum := by unfold preS; rw [List.take_of_length_le h]
theorem preS_le (xs : List ByteArray) (k : Nat) : preS xs k ≤ (xs.map ByteArray.size).sum := by
  unfold preS
  have h : xs.map ByteArray.size = (xs.take k).map ByteArray.size ++ (xs.drop k).map ByteArray.size := by rw [← List.map_append, List.take_append_drop]
  rw [h, List.sum_append]; omega
theorem totS_at {xs : List ByteArray} {k : Nat} {x : ByteArray} (h : xs[k]? = some x) : xs.length + preS xs k + x.size ≤ totS xs := by
  have h1 := preS_le xs (k + 1); rw [preS_step h] at h1; unfold totS; omega
theorem preS_zero (xs : List ByteArray) : preS xs 0 = 0 := rfl
theorem totS_len (xs : List ByteArray) : xs.length ≤ totS xs := by unfold totS; omega
def szS (xs : List ByteArray) (left : Int) : Int := if (totS xs : Int) ≤ left then left - totS xs else -1
theorem szS_yes {xs : List ByteArray} {left : Int} (h : (totS xs : Int) ≤ left) : szS xs left = left - totS xs := if_pos h
theorem szS_no {xs : List ByteArray} {left : Int} (h : left < totS xs) : szS xs left = -1 := if_neg (by omega)
set_option maxHeartbeats 1000000 in
theorem szStringS_any (A : Option Addr) (n c : Nat) (xs : List ByteArray) (left : Int) (w : World) (hr : RdL cs1 1 w w.heap.size A n c xs) (hg : ∀ x ∈ xs, x.size ≤ maxLen) (h0 : 0 ≤ left) (h1 : left ≤ 1048576) :
    Calls Try.prog 76 #[.slice A n c, .int .i64 left] w fun e w' => e = .returned (.int .i64 (szS xs left)) ∧ Below w.heap.size w w' := by
  have hl := Lib.hid hr.len
  have HG := Lib.hid hg
  clear hg
  have hcap : n ≤ 9223372036854775807 := Nat.le_trans hr.cap hr.capm
  have o1 : IntKind.i64.wrap (left - (n : Int)) = left - (n : Int) := IntWalk.i64_in _ (by omega)
  by_cases hbig : (n : Int) ≤ left
  · have o2 : ¬ left - (n : Int) < 0 := by omega
    go_enter Try.func76, Try.ntmps76
    go_wp2_with fail
    clear o1 o2
    go_loopw [1, 5] (fun lf i wr => ∃ k : Nat, k ≤ n ∧ i = .int .i64 k ∧ lf = .int .i64 (left - n - preS xs k) ∧ (preS xs k : Int) ≤ left - n ∧ Below w.heap.size w wr) (fun _ i _ => n - (intOf i).toNat)
    case atStart => exact ⟨0, by omega, rfl, by rw [preS_zero]; simp, by rw [preS_zero]; omega, Below.refl _ _⟩
    case round =>
      obtain ⟨k, hk, rfl, rfl, hp, hb⟩ := hrel
      by_cases hlt : k < n
      · obtain ⟨b, off, s, rfl, hbl, hx, q0⟩ := (hr.below hb).atS hlt
        have hss : s.size ≤ 9223372036854775807 := by have h := HG.out s (List.mem_of_getElem? hx.out); simpa [maxLen] using h
        have hst : Hid (preS xs (k + 1) = preS xs k + s.size) := preS_step hx.out
        have hto : Hid (n + preS xs k + s.size ≤ totS xs) := by have h := totS_at hx.out; rw [hl.out] at h; exact h
        have i1 : (k : Int) < (n : Int) := by omega
        have i2 : (0 : Int) ≤ (k : Int) := by omega
        have hsz := hb.size
        replace hbl : b < wr.heap.size := by omega
        clear hr hx
        generalize preS xs k = pk at *
        have o1 : IntKind.i64.wrap (left - (n : Int) - (pk : Int) - (s.size : Int)) = left - (n : Int) - (pk : Int) - (s.size : Int) := IntWalk.i64_in _ (by omega)
        by_cases hfit : (s.size : Int) ≤ left - n - pk
        · have o3 : ¬ left - (n : Int) - (pk : Int) - (s.size : Int) < 0 := by omega
          go_wp2
          clear o1
          exact ⟨⟨k + 1, by omega, by go_num, by rw [hst.out]; congr 1; omega, by rw [hst.out]; omega, hb⟩, by simp [intOf]; omega⟩
        · have F : Hid (szS xs left = -1) := szS_no (by have := hto.out; omega)
          have o3 : left - (n : Int) - (pk : Int) - (s.size : Int) < 0 := by omega
          go_wp2
          go_ret
          exact ⟨ret_int F.out.symm, hb⟩
      · have hkn : k = n := by omega
        subst hkn
        have F : Hid (szS xs left = left - k - preS xs k) := by
          have h9 : preS xs k = (xs.map ByteArray.size).sum := preS_all (by rw [hl.out]; omega)
          have h8 : totS xs = k + preS xs k := by unfold totS; rw [hl.out, h9]
          show _ = _
          rw [szS_yes (by omega), h8]; omega
        clear hr
        go_wp2
        go_ret
        exact ⟨ret_int F.out.symm, hb⟩
  · have o2 : left - (n : Int) < 0 := by omega
    have F : Hid (szS xs left = -1) := szS_no (by have h := totS_len xs; rw [hl.out] at h; omega)
    clear hr
    go_enter Try.func76, Try.ntmps76
    go_wp2
    go_ret
    exact ⟨ret_int F.out.symm, Below.refl _ _⟩
theorem madeStr (n : Nat) : (madeCells (Value.string ⟨#[]⟩).cells n).toList = List.replicate n (.string ⟨#[]⟩) :=
  made_rep _ _ 1 n rfl (fun j hj => by match j, hj with | 0, _ => rfl) (by decide)
theorem putS {w : World} {base g n k : Nat} {e : TypeId} {z : Value} {l : List ByteArray} (h : w.ownsRow base e 1 (.slice (some ⟨g, 0, none⟩) n n) n (l.flatMap cs1 ++ List.replicate (n - k) z)) (hl : l.length = k) (hk : k < n) (x : ByteArray) :
    (w.setCell ⟨g, k, none⟩ (.string x)).ownsRow base e 1 (.slice (some ⟨g, 0, none⟩) n n) n ((l ++ [x]).flatMap cs1 ++ List.replicate (n - (k + 1)) z) := by
  have h1 := (h.stored k (.string x)).1
  rw [show n - k = (n - (k + 1)) + 1 by omega, set_one (by rw [flat_len cs1_len, hl]; omega)] at h1
  rw [flat_snoc]; exact h1
set_option maxHeartbeats 400000 in
theorem toStringS_any (A : Option Addr) (n c : Nat) (xs : List ByteArray) (w : World) (hr : RdL cs1 1 w w.heap.size A n c xs) (hn : n ≤ 1048576) :
    Calls Try.prog 79 #[.slice A n c] w fun e w' => e = .returned (.slice (some ⟨w.heap.size, 0, none⟩) n n) ∧
      w'.ownsRow w.heap.size 9 1 (.slice (some ⟨w.heap.size, 0, none⟩) n n) n (xs.flatMap cs1) ∧ Below w.heap.size w w' := by
  obtain ⟨i0, hi, hz0, hz1, hz2⟩ := info_parts (show (Try.prog.info? 9).map (fun i => (i.zero, i.size, i.bytes)) = some (some (.string ⟨#[]⟩), 1, 16) by kernel_rfl)
  go_enter Try.func79, Try.ntmps79
  go_wp2_with (refine wpList_make_full _ rfl _ _ _ rfl w.heap.size 9 i0 _ 1 Try.underlying38 hi hz0 hz1 .i64 .i64 n n n rfl rfl rfl rfl (by rw [hz2]; omega) (by unfold maxLen; omega) (Nat.le_refl _) ?_; intro w1 hown hg)
  rw [madeStr] at hown
  have hlen := Lib.hid hr.len
  have hB1 : Below w.heap.size w w1 := (Below.refl _ _).grown hg (Nat.le_refl _) (fun k h => by cases h)
  clear hg
  go_loopw [4] (fun i wr => ∃ k : Nat, k ≤ n ∧ i = .int .i64 k ∧ Below w.heap.size w wr ∧
      wr.ownsRow w.heap.size 9 1 (.slice (some ⟨w.heap.size, 0, none⟩) n n) n ((xs.take k).flatMap cs1 ++ List.replicate (n - k) (.string ⟨#[]⟩))) (fun i _ => n - (intOf i).toNat)
  case atStart => exact ⟨0, by omega, rfl, hB1, by simpa using hown⟩
  case round =>
    obtain ⟨k, hk, rfl, hb, hw⟩ := hrel
    clear hown hB1
    by_cases hlt : k < n
    · obtain ⟨b, off, x, rfl, hbl, hx, q0⟩ := (hr.below hb).atS hlt
      clear hr
      obtain ⟨⟨v0, e0⟩, f0⟩ := own_cell hw (j := k) (by omega)
      go_wp2
      refine ⟨⟨k + 1, by omega, by go_num, (by repeat (first | exact Below.refl _ _ | assumption | refine Below.drew ?_ | refine below_drewN ?_ _ | refine Below.alloc ?_ (by first | omega | (simp <;> omega)) _ | refine Below.setCell ?_ (by first | omega | (simp <;> omega)) _)), ?_⟩, by simp [intOf]; omega⟩
      rw [take_succ_of hx.out]
      exact putS hw (by rw [List.length_take, hlen.out]; omega) hlt x
    · have hkn : k = n := by omega
      subst hkn
      clear hr
      go_wp2
      go_ret
      refine ⟨rfl, ?_, hb⟩
      rw [List.take_of_length_le (by rw [hlen.out]; omega)] at hw
      simpa using hw
set_option maxHeartbeats 400000 in
theorem eqStringS_yes (A A' : Option Addr) (n c n' c' : Nat) (xs : List ByteArray) (w : World) (hr : RdL cs1 1 w w.heap.size A n c xs) (hr' : RdL cs1 1 w w.heap.size A' n' c' xs) (hn : n ≤ 1048576) :
    Calls Try.prog 62 #[.slice A n c, .slice A' n' c'] w fun e w' => e = .returned (.bool true) ∧ Below w.heap.size w w' := by
  have hl := Lib.hid hr.len
  have hnn : n' = n := by rw [← hr.len, ← hr'.len]
  subst hnn
  go_enter Try.func62, Try.ntmps62
  go_wp2
  go_loopw [5] (fun i wr => ∃ k : Nat, k ≤ n' ∧ i = .int .i64 k ∧ Below w.heap.size w wr) (fun i _ => n' - (intOf i).toNat)
  case atStart => exact ⟨0, by omega, rfl, Below.refl _ _⟩
  case round =>
    obtain ⟨k, hk, rfl, hb⟩ := hrel
    by_cases hlt : k < n'
    · obtain ⟨b, off, x, rfl, hbl, hx, q0⟩ := (hr.below hb).atS hlt
      obtain ⟨b', off', x', rfl, hbl', hx', q0'⟩ := (hr'.below hb).atS hlt
      have hxx : x' = x := by have h1 := hx.out; rw [hx'.out] at h1; exact Option.some.inj h1
      subst hxx
      clear hr hr'
      go_wp2
      go_quiet (fail)
      have hb3 : Below w.heap.size w (wr.drewN nq) := below_drewN hb _
      go_wp2
      exact ⟨⟨k + 1, by omega, by go_num, hb3⟩, by simp [intOf]; omega⟩
    · clear hr hr'
      go_wp2
      go_ret
      exact ⟨rfl, hb⟩
def markS (k : Int) (n : Nat) : List ByteArray := (List.range n).map (fun i : Nat => mtx (k + i).toNat)
theorem markS_len (k : Int) (n : Nat) : (markS k n).length = n := by simp [markS]
theorem markS_succ (k : Int) (n : Nat) : markS k (n + 1) = markS k n ++ [mtx (k + n).toNat] := by simp [markS, List.range_succ]
theorem markS_at {k : Int} {n i : Nat} {x : ByteArray} (h : (markS k n)[i]? = some x) : x = mtx (k + i).toNat := by
  simp only [markS, List.getElem?_map, Option.map_eq_some_iff] at h
  obtain ⟨j, hj, rfl⟩ := h
  obtain ⟨_, rfl⟩ := List.getElem?_eq_some_iff.1 hj
  simp
theorem markTextI_any (k : Int) (w : World) (h0 : 0 < k) (h1 : k ≤ 1099511627776) : Calls Try.prog 120 #[.int .i64 k] w fun e w' => e = .returned (.string (mtx k.toNat)) ∧ Below w.heap.size w w' := by
  obtain ⟨m, rfl⟩ := Int.eq_ofNat_of_zero_le (Int.le_of_lt h0)
  exact markText_any m w (by omega) (by omega)
theorem grown_below {a w w' : World} {row : Option Nat} (h : a.grownBy w row) (hb : Below w.heap.size w w') : a.grownBy w' row :=
  ⟨hb.os.trans h.os, hb.tape.trans h.tape, hb.output.trans h.output, Nat.le_trans h.size hb.size, fun i hi hne => (hb.block i (Nat.lt_of_lt_of_le hi h.size)).trans (h.block i hi hne)⟩
theorem putM {w : World} {base g n c i : Nat} {e : TypeId} {k : Int} {vs : List Value} (h : w.ownsRow base e 1 (.slice (some ⟨g, 0, none⟩) n c) n ((markS k i).flatMap cs1 ++ vs.drop i)) (hl : vs.length = n * 1) (hi : i < n) :
    (w.setCell ⟨g, i, none⟩ (.string (mtx (k + i).toNat))).ownsRow base e 1 (.slice (some ⟨g, 0, none⟩) n c) n ((markS k (i + 1)).flatMap cs1 ++ vs.drop (i + 1)) := by
  have h1 := (h.stored i (.string (mtx (k + i).toNat))).1
  rw [over1 (by rw [flat_len cs1_len, markS_len]; omega) (by rw [List.length_drop]; omega)] at h1
  rw [markS_succ, flat_snoc, show vs.drop (i + 1) = (vs.drop i).drop 1 by rw [List.drop_drop]]; exact h1
set_option maxHeartbeats 400000 in
theorem markStringS_any (A : Option Addr) (n c base : Nat) (vs : List Value) (k : Int) (w : World) (ho : w.ownsRow base 9 1 (.slice A n c) n vs) (hn : n ≤ 1048576) (hk0 : 0 < k) (hk1 : k ≤ 1048576) :
    Calls Try.prog 63 #[.slice A n c, .int .i64 k] w fun e w' => e = .returned (.int .i64 (k + n)) ∧ w'.ownsRow base 9 1 (.slice A n c) n ((markS k n).flatMap cs1) ∧ w.grownBy w' (Value.slice A n c).ownBlock := by
  have hl := Lib.hid ho.1
  by_cases hpos : 0 < n
  · obtain ⟨g, rfl, hg0, hg1⟩ := own_at ho hpos
    go_enter Try.func63, Try.ntmps63
    go_wp2
    go_loopw [1, 5] (fun q i wr => ∃ j : Nat, j ≤ n ∧ i = .int .i64 j ∧ q = .int .i64 (k + j) ∧ w.grownBy wr (some g) ∧ wr.ownsRow base 9 1 (.slice (some ⟨g, 0, none⟩) n c) n ((markS k j).flatMap cs1 ++ vs.drop j)) (fun _ i _ => n - (intOf i).toNat)
    case atStart => exact ⟨0, by omega, rfl, by simp, World.grownBy.refl _ _, by simpa [markS] using ho⟩
    case round =>
      obtain ⟨j, hj, rfl, rfl, hgr, hw⟩ := hrel
      by_cases hlt : j < n
      · have HW := Lib.hid hw
        have hzg := hgr.size
        clear ho hw
        go_wp2_with fail
        with_reducible refine (markTextI_any _ _ (by omega) (by omega)).mono ?_
        rintro e w2 ⟨rfl, hb2⟩
        have hw2 := own_below HW.out hb2
        obtain ⟨⟨v0, e0⟩, f0⟩ := own_cell hw2 (j := j) (by omega)
        have hgr2 : w.grownBy w2 (some g) := grown_below hgr hb2
        go_wp2
        refine ⟨⟨j + 1, by omega, by go_num, by go_num, only_setCell hgr2 (.inl rfl) _, ?_⟩, by simp [intOf]; omega⟩
        exact putM hw2 hl.out hlt
      · have hjn : j = n := by omega
        subst hjn
        clear ho
        go_wp2
        go_ret
        refine ⟨rfl, ?_, hgr⟩
        rw [List.drop_eq_nil_of_le (by rw [hl.out]; omega), List.append_nil] at hw
        exact hw
  · have h0 : n = 0 := by omega
    subst h0
    have hv : vs = [] := List.eq_nil_of_length_eq_zero (by simpa using ho.1)
    subst hv
    go_enter Try.func63, Try.ntmps63
    go_wp2
    refine wp_loop_once ?_
    go_wp2
    go_ret
    exact ⟨ret_int (by simp), by simpa [markS] using ho, World.grownBy.refl _ _⟩
set_option maxHeartbeats 400000 in
theorem heldStringS_any (A : Option Addr) (n c : Nat) (k : Int) (w : World) (hr : RdL cs1 1 w w.heap.size A n c (markS k n)) (hn : n ≤ 1048576) (hk0 : 0 < k) (hk1 : k ≤ 1048576) :
    Calls Try.prog 64 #[.slice A n c, .int .i64 k] w fun e w' => e = .returned (.int .i64 (k + n)) ∧ Below w.heap.size w w' := by
  go_enter Try.func64, Try.ntmps64
  go_wp2
  go_loopw [1, 5] (fun q i wr => ∃ j : Nat, j ≤ n ∧ i = .int .i64 j ∧ q = .int .i64 (k + j) ∧ Below w.heap.size w wr) (fun _ i _ => n - (intOf i).toNat)
  case atStart => exact ⟨0, by omega, rfl, by simp, Below.refl _ _⟩
  case round =>
    obtain ⟨j, hj, rfl, rfl, hb⟩ := hrel
    by_cases hlt : j < n
    · obtain ⟨b, off, x, rfl, hbl, hx, q0⟩ := (hr.on hb).atS hlt
      have hm := markS_at hx.out
      subst hm
      clear hr
      have hz := hb.size
      go_wp2_with fail
      go_region_held3 (fun w' => (∀ b o, b < wr.heap.size → w'.cell? ⟨b, o, none⟩ = wr.cell? ⟨b, o, none⟩) ∧ Below wr.heap.size wr w') (first | exact sk (Below.refl _ _).drew | (go_split_ands; exact sk (below_app ‹_› hbw2 (Below.size ‹_›)))) (first | (go_at_call 120; with_reducible refine (markTextI_any _ _ (by omega) (by omega)).mono ?_; rintro e w2 ⟨rfl, hbw2⟩))
      go_split_ands
      have hb3 : Below w.heap.size w w2 := below_app hb ‹Below wr.heap.size wr w2› hb.size
      go_wp2
      exact ⟨⟨j + 1, by omega, by go_num, by go_num, hb3⟩, by simp [intOf]; omega⟩
    · have hjn : j = n := by omega
      subst hjn
      clear hr
      go_wp2
      go_ret
      exact ⟨rfl, hb⟩
end Go.Proofs.Ytammapaockmjkaa
