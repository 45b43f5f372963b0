/- Slices of slices in the laws: measured, made, compared. -/
import Derived.Test.YtkldejbhhbgefaaNl
import Derived.Test.YtkldejbhhbgefaaMk
import Derived.Deep.RegionHeld3
import Derived.IntWalk
namespace Go.Proofs.Ytkldejbhhbgefaa
open Go.ChangeShapes Go.WideShapes Go.ChangeAt Go.RowKit
set_option maxHeartbeats 4000000 in
theorem szFeatSS_any (A : Option Addr) (n c : Nat) (xs : List (List T3)) (left : Int) (w : World) (hr : NL w w.heap.size A n c xs) (h0 : 0 ≤ left) (h1 : left ≤ 1048576) :
    Calls Try.prog 17 #[.slice A n c, .int .i64 left] w fun e w' => e = .returned (.int .i64 (szV xs left)) ∧ Below w.heap.size w w' := by
  have hl := Lib.hid hr.len
  have hcap : n ≤ 9223372036854775807 := Nat.le_trans hr.cap hr.capm
  have o1 : IntKind.i64.wrap (left - (n : Int)) = left - (n : Int) := IntWalk.i64_in _ (by omega)
  by_cases hbig : (n : Int) ≤ left
  · have o2 : ¬ left - (n : Int) < 0 := by omega
    go_enter Try.func17, Try.ntmps17
    go_wp2_with fail
    clear o1 o2
    go_loopw [1, 5] (fun lf i wr => ∃ k : Nat, k ≤ n ∧ i = .int .i64 k ∧ lf = .int .i64 (left - n - preL xs k) ∧ (preL xs k : Int) ≤ left - n ∧ Below w.heap.size w wr) (fun _ i _ => n - (intOf i).toNat)
    case atStart => exact ⟨0, by omega, rfl, by rw [preL_zero]; simp, by rw [preL_zero]; omega, Below.refl _ _⟩
    case round =>
      obtain ⟨k, hk, rfl, rfl, hp, hb⟩ := hrel
      by_cases hlt : k < n
      · obtain ⟨b, off, A', n', c', x, rfl, hbl, hx, q0, hx3⟩ := (hr.below hb).at_ hlt
        have hcap' : n' ≤ 9223372036854775807 := Nat.le_trans hx3.cap hx3.capm
        have hst : Hid (preL xs (k + 1) = preL xs k + n') := by have h := preL_step hx.out; rw [hx3.len] at h; exact h
        have hto : Hid (n + preL xs k + n' ≤ totL xs) := by have h := totL_at hx.out; rw [hx3.len, hl.out] at h; exact h
        have i1 : (k : Int) < (n : Int) := by omega
        have i2 : (0 : Int) ≤ (k : Int) := by omega
        have hsz := hb.size
        replace hbl : b < wr.heap.size := by omega
        clear hr hx3 hx
        generalize preL xs k = pk at *
        by_cases hfit : (n' : Int) ≤ left - n - pk
        · go_wp2_with fail
          with_reducible refine (szFeatS_yes _ _ _ _ _ hcap' (by omega) (by omega) hfit).mono ?_
          rintro e w2 ⟨rfl, rfl⟩
          have o3 : ¬ left - (n : Int) - (pk : Int) - (n' : Int) < 0 := by omega
          go_wp2
          exact ⟨⟨k + 1, by omega, by go_num, by rw [hst.out]; congr 1; omega, by rw [hst.out]; omega, hb⟩, by simp [intOf]; omega⟩
        · have F : Hid (szV xs left = -1) := szV_no (by have := hto.out; omega)
          go_wp2_with fail
          with_reducible refine (szFeatS_no _ _ _ _ _ hcap' (by omega) (by omega) (by omega)).mono ?_
          rintro e w2 ⟨rfl, rfl⟩
          go_wp2
          go_ret
          exact ⟨ret_int F.out.symm, hb⟩
      · have hkn : k = n := by omega
        subst hkn
        have F : Hid (szV xs left = left - k - preL xs k) := by
          have h9 : preL xs k = (xs.map List.length).sum := preL_all (by rw [hl.out]; omega)
          have h8 : totL xs = k + preL xs k := by unfold totL; rw [hl.out, h9]
          show _ = _
          rw [szV_yes (by omega), h8]; omega
        clear hr
        go_wp2
        go_ret
        exact ⟨ret_int F.out.symm, hb⟩
  · have o2 : left - (n : Int) < 0 := by omega
    have F : Hid (szV xs left = -1) := szV_no (by have h : xs.length ≤ totL xs := by unfold totL; omega
                                                  rw [hl.out] at h; omega)
    clear hr
    go_enter Try.func17, Try.ntmps17
    go_wp2
    go_ret
    exact ⟨ret_int F.out.symm, Below.refl _ _⟩
set_option maxRecDepth 100000 in
set_option maxHeartbeats 8000000 in
theorem toFeatSS_own (A : Option Addr) (n c : Nat) (xs : List (List T3)) (w : World) (hr : NL w w.heap.size A n c xs) (hn : totL xs ≤ 1048576) :
    Calls Try.prog 20 #[.slice A n c] w fun e w' => ∃ hs : List HS, e = .returned (.slice (some ⟨w.heap.size, 0, none⟩) n n) ∧ w'.ownsRow w.heap.size 43 1 (.slice (some ⟨w.heap.size, 0, none⟩) n n) n (hs.flatMap cS) ∧ hs.length = n ∧
      NLo w' (w.heap.size + 1) 79 hs xs ∧ NLd hs ∧ Below w.heap.size w w' := by
  obtain ⟨i0, hi, hz0, hz1, hz2⟩ := info_parts (show (Try.prog.info? 43).map (fun i => (i.zero, i.size, i.bytes)) = some (some (.slice none 0 0), 1, 24) by kernel_rfl)
  have hl := Lib.hid hr.len
  have hnn : n ≤ 1048576 := by have h : xs.length ≤ totL xs := by unfold totL; omega
                               rw [hl.out] at h; omega
  go_enter Try.func20, Try.ntmps20
  go_wp2_with (refine wpList_make_full _ rfl _ _ _ rfl w.heap.size 43 i0 _ 1 Try.underlying45 hi hz0 hz1 .i64 .i64 n n n rfl rfl rfl rfl (by rw [hz2]; omega) (by unfold maxLen; omega) (Nat.le_refl _) ?_; intro w1 hown hg)
  rw [madeSl] at hown
  have hB1 : Below w.heap.size w w1 := (Below.refl _ _).grown hg (Nat.le_refl _) (fun k h => by cases h)
  clear hg
  go_loopw [4] (fun i wr => ∃ (k : Nat) (hs : List HS), k ≤ n ∧ i = .int .i64 k ∧ Hid (hs.length = k) ∧ Below w.heap.size w wr ∧
      wr.ownsRow w.heap.size 43 1 (.slice (some ⟨w.heap.size, 0, none⟩) n n) n (hs.flatMap cS ++ List.replicate (n - k) (.slice none 0 0)) ∧ Hid (NLo wr (w.heap.size + 1) 79 hs xs) ∧ Hid (NLd hs)) (fun i _ => n - (intOf i).toNat)
  case atStart => exact ⟨0, [], by omega, rfl, rfl, hB1, by simpa using hown, (fun k q x h => by simp at h), (fun i j h h' a a' _ hi => by simp at hi)⟩
  case round =>
    obtain ⟨k, hs, hk, rfl, hhl, hb, hw, ho, hdj⟩ := hrel
    clear hown hB1
    by_cases hlt : k < n
    · obtain ⟨b, off, A', n', c', x, rfl, hbl, hx, q0, hx3⟩ := (hr.below hb).at_ hlt
      obtain ⟨⟨v0, e0⟩, f0⟩ := own_cell hw (j := k) (by omega)
      have hgs := World.block_lt_of_cell? wr _ e0
      have i1 : (k : Int) < (n : Int) := by omega
      have i2 : (0 : Int) ≤ (k : Int) := by omega
      have hxn : n' ≤ 1048576 := by have h := totL_at hx.out; rw [hx3.len] at h; omega
      have hsz := hb.size
      have hxl := hx3.len
      replace hx3 := hx3.more hsz
      clear hr
      go_wp2_with fail
      with_reducible refine (toFeatS_any _ _ _ x _ hx3 hxn).mono ?_
      rintro e w2 ⟨rfl, o2, hb2⟩
      have hw2 := own_below hw hb2
      have ho2 := Lib.hid (ho.out.on hb2)
      have e2 := (hb2.cell (p := ⟨w.heap.size, k, none⟩) hgs).trans e0
      have f2 := (own_cell hw2 (j := k) (by omega)).2
      have hgs2 := hb2.size
      have HT := Lib.hid (ho.out.top' (by rw [hhl.out, hl.out]; omega))
      have hO2 := Lib.hid o2
      have hb3 := below_app hb hb2 hb.size
      have HW2 := Lib.hid hw2
      clear hx3 hw ho q0 e0 f0 o2 hw2
      go_wp2
      have hlo : ∀ ad, (Value.slice (some ⟨wr.heap.size, 0, none⟩) n' n').ownBlock = some ad → wr.heap.size ≤ ad := fun ad h9 => (hO2.out.lt ad h9).1
      refine ⟨⟨k + 1, hs ++ [(some ⟨wr.heap.size, 0, none⟩, n', n')], by omega, by go_num, by show (hs ++ [_]).length = _; rw [List.length_append, hhl.out]; rfl, (by repeat (first | exact Below.refl _ _ | assumption | refine Below.drew ?_ | refine below_drewN ?_ _ | refine Below.alloc ?_ (by first | omega | (simp <;> omega)) _ | refine Below.setCell ?_ (by first | omega | (simp <;> omega)) _)), put1S HW2.out hhl.out hlt (some ⟨wr.heap.size, 0, none⟩, n', n'), ?_, ?_⟩, by simp [intOf]; omega⟩
      rotate_left
      · refine NLd.snoc hdj.out hhl.out (fun i h a a' hi ha ha' => ?_)
        have h8 := (HT.out i h a hi ha).2
        have h9 := hlo a'.block (by cases ha'; rfl)
        omega
      refine NLo.snoc (NLo.far ho2.out (fun j q a hj ha => ?_) _) hhl.out hx.out hxl (own_mono (ownsRow_setCell_other hO2.out (fun h9 => ?_) _) (by omega))
      · have hj2 : j < xs.length := by have := (List.getElem?_eq_some_iff.1 hj).1; rw [hhl.out] at this; rw [hl.out]; omega
        have h8 := ((ho2.out j q _ hj (List.getElem?_eq_getElem hj2)).2.lt a.block (by rw [ha]; rfl)).1
        simp only; omega
      · have := hlo _ h9; simp only at this; omega
    · have hkn : k = n := by omega
      subst hkn
      clear hr
      go_wp2
      go_ret
      refine ⟨hs, rfl, by simpa using hw, hhl.out, ho.out, hdj.out, hb⟩
theorem toFeatSS_any (A : Option Addr) (n c : Nat) (xs : List (List T3)) (w : World) (hr : NL w w.heap.size A n c xs) (hn : totL xs ≤ 1048576) :
    Calls Try.prog 20 #[.slice A n c] w fun e w' => ∃ hs : List HS, e = .returned (.slice (some ⟨w.heap.size, 0, none⟩) n n) ∧ w'.ownsRow w.heap.size 43 1 (.slice (some ⟨w.heap.size, 0, none⟩) n n) n (hs.flatMap cS) ∧ hs.length = n ∧
      NLo w' (w.heap.size + 1) 79 hs xs ∧ Below w.heap.size w w' :=
  (toFeatSS_own A n c xs w hr hn).mono fun _ _ ⟨hs, h1, h2, h3, h4, _, h5⟩ => ⟨hs, h1, h2, h3, h4, h5⟩
set_option maxHeartbeats 4000000 in
theorem eqFeatSS_yes (A A2 : Option Addr) (n c n2 c2 : Nat) (xs : List (List T3)) (w : World) (hr : NL w w.heap.size A n c xs) (hr' : NL w w.heap.size A2 n2 c2 xs) (hn : totL xs ≤ 1048576) :
    Calls Try.prog 23 #[.slice A n c, .slice A2 n2 c2] w fun e w' => e = .returned (.bool true) ∧ Below w.heap.size w w' := by
  have hl := Lib.hid hr.len
  have hnn : n2 = n := by rw [← hr.len, ← hr'.len]
  subst hnn
  have hcap : n2 ≤ 9223372036854775807 := Nat.le_trans hr.cap hr.capm
  go_enter Try.func23, Try.ntmps23
  go_wp2_with fail
  go_loopw [5] (fun i wr => ∃ k : Nat, k ≤ n2 ∧ i = .int .i64 k ∧ Below w.heap.size w wr) (fun i _ => n2 - (intOf i).toNat)
  case atStart => exact ⟨0, by omega, rfl, Below.refl _ _⟩
  case round =>
    obtain ⟨k, hk, rfl, hb⟩ := hrel
    by_cases hlt : k < n2
    · obtain ⟨b, off, A', n', c', x, rfl, hbl, hx, q0, hx3⟩ := (hr.on hb).at_ hlt
      obtain ⟨b2, off2, B', m', d', x', rfl, hbl2, hx', p0, hx4⟩ := (hr'.on hb).at_ hlt
      have hxx : x' = x := by have h1 := hx.out; rw [hx'.out] at h1; exact Option.some.inj h1
      subst hxx
      have i1 : (k : Int) < (n2 : Int) := by omega
      have i2 : (0 : Int) ≤ (k : Int) := by omega
      have hxn : n' ≤ 1048576 := by have h := totL_at hx.out; rw [hx3.len] at h; omega
      have hsz := hb.size
      have HX3 := Lib.hid hx3
      have HX4 := Lib.hid hx4
      clear hr hr' hx3 hx4
      go_wp2_with fail
      go_region_held3 (fun w' => (∀ b o, b < wr.heap.size → w'.cell? ⟨b, o, none⟩ = wr.cell? ⟨b, o, none⟩) ∧ Below wr.heap.size wr w') (first | exact sk (Below.refl _ _).drew | (go_split_ands; exact sk (below_app ‹_› hbw2 (Below.size ‹_›)))) (first | (go_at_call 22; with_reducible refine (eqFeatS_yes _ _ _ _ _ _ x' _ (HX3.out.on (Below.refl _ _).drew) (HX4.out.on (Below.refl _ _).drew) hxn).mono ?_; rintro e w2 ⟨rfl, hbw2⟩))
      go_split_ands
      have hb3 : Below w.heap.size w w2 := below_app hb ‹Below wr.heap.size wr w2› hb.size
      go_wp2
      exact ⟨⟨k + 1, by omega, by go_num, hb3⟩, by simp [intOf]; omega⟩
    · clear hr hr'
      go_wp2
      go_ret
      exact ⟨rfl, hb⟩
theorem szFeatSS_yes (A : Option Addr) (n c : Nat) (xs : List (List T3)) (left : Int) (w : World) (hr : NL w w.heap.size A n c xs) (h0 : 0 ≤ left) (h1 : left ≤ 1048576) (h : (totL xs : Int) ≤ left) :
    Calls Try.prog 17 #[.slice A n c, .int .i64 left] w fun e w' => e = .returned (.int .i64 (left - totL xs)) ∧ Below w.heap.size w w' := by
  have h9 := szFeatSS_any A n c xs left w hr h0 h1
  rw [szV_yes h] at h9; exact h9
theorem szFeatSS_no (A : Option Addr) (n c : Nat) (xs : List (List T3)) (left : Int) (w : World) (hr : NL w w.heap.size A n c xs) (h0 : 0 ≤ left) (h1 : left ≤ 1048576) (h : left < (totL xs : Int)) :
    Calls Try.prog 17 #[.slice A n c, .int .i64 left] w fun e w' => e = .returned (.int .i64 (-1)) ∧ Below w.heap.size w w' := by
  have h9 := szFeatSS_any A n c xs left w hr h0 h1
  rw [szV_no h] at h9; exact h9
set_option maxHeartbeats 4000000 in
theorem markFeatSS_any (A : Option Addr) (n c b0 base top : Nat) (e : TypeId) (xs : List (List T3)) (hs : List HS) (k : Int) (w : World) (ho : w.ownsRow b0 e 1 (.slice A n c) n (hs.flatMap cS)) (hl : hs.length = n) (hx : xs.length = n) (hu : NLo w base 79 hs xs) (hd : NLd hs)
    (hin : ∀ (i : Nat) (q : HS) (a : Addr), hs[i]? = some q → q.1 = some a → base ≤ a.block ∧ a.block < top) (hA : ∀ a, A = some a → a.block < base) (hB : base ≤ w.heap.size) (hn : totL xs ≤ 1048576) (hk0 : 0 ≤ k) (hk1 : k ≤ 1073741824) :
    Calls Try.prog 25 #[.slice A n c, .int .i64 k] w fun e w' => e = .returned (.int .i64 (k + 3 * (preL xs n : Nat))) ∧ Chg base top w w' := by
  have HX := Lib.hid hx
  have hcap : n ≤ 1048576 := by have h : xs.length ≤ totL xs := by unfold totL; omega
                                rw [hx] at h; omega
  have hro : RdL cS 1 w base A n c hs := RdL.of_ownB ho hl hA
  go_enter Try.func25, Try.ntmps25
  go_wp2_with fail
  go_loopw [1, 5] (fun q i wr => ∃ j : Nat, j ≤ n ∧ i = .int .i64 j ∧ q = .int .i64 (k + 3 * (preL xs j : Nat)) ∧ Chg base top w wr ∧ Hid (∀ (r : Nat) (h : HS) (x : List T3), j ≤ r → hs[r]? = some h → xs[r]? = some x → x.length = h.2.1 ∧ wr.ownsRow base 79 3 (.slice h.1 h.2.1 h.2.2) h.2.1 (x.flatMap c3))) (fun _ i _ => n - (intOf i).toNat)
  case atStart => exact ⟨0, by omega, rfl, by rw [preL_zero]; simp, Chg.refl _ _ _, fun r h x _ h1 h2 => hu r h x h1 h2⟩
  case round =>
    obtain ⟨j, hj, rfl, rfl, hc, hrest⟩ := hrel
    by_cases hlt : j < n
    · obtain ⟨b, off, q, rfl, hbl, hq, hcell⟩ := RdL.at_ (f := cS) (s := 1) cS_len (hro.below hc.1) hlt
      have q0 := hcell 0 (.slice q.1 q.2.1 q.2.2) (by decide) rfl
      simp only [Nat.mul_one, Nat.add_zero] at q0
      have hxj : xs[j]? = some (xs[j]'(by rw [HX.out]; exact hlt)) := List.getElem?_eq_getElem (by rw [HX.out]; exact hlt)
      obtain ⟨x, hxx⟩ : ∃ x, xs[j]'(by rw [HX.out]; exact hlt) = x := ⟨_, rfl⟩
      rw [hxx] at hxj
      obtain ⟨hl1, ho1⟩ := hrest.out j q x (Nat.le_refl _) hq hxj
      have hto := totL_at hxj
      have hst := Lib.hid (preL_step hxj)
      have hle := preL_le xs j
      have htot : (xs.map List.length).sum ≤ 1048576 := by have : (xs.map List.length).sum ≤ totL xs := by unfold totL; omega
                                                           omega
      have i1 : (j : Int) < (n : Int) := by omega
      have i2 : (0 : Int) ≤ (j : Int) := by omega
      have hsz := hc.1.size
      replace hbl : b < wr.heap.size := by omega
      have HR := hrest
      have HO := Lib.hid ho1
      clear ho hu ho1 hcell hrest
      obtain ⟨qa, qn, qc⟩ := q
      simp only at q0 hl1
      go_wp2_with fail
      with_reducible refine (markFeatS_any _ _ _ _ _ _ _ HO.out (by omega) (by omega) (by omega)).mono ?_
      rintro e w2 ⟨rfl, o2, hg2⟩
      have hc2 : Chg base top wr w2 := Chg.of_grown hg2 (by omega) (fun g hg => by
        cases qa with
        | none => simp [Value.ownBlock] at hg
        | some a => simp [Value.ownBlock] at hg; subst hg; exact hin j _ a hq rfl)
      clear o2
      go_wp2
      refine ⟨⟨j + 1, by omega, by go_num, by rw [hst.out, hl1]; congr 1; omega, hc.trans hc2, fun r h x' hr h1 h2 => ?_⟩, by simp [intOf]; omega⟩
      obtain ⟨g1, g2⟩ := HR.out r h x' (by omega) h1 h2
      refine ⟨g1, g2.kept hg2 ?_⟩
      cases hqa : qa with
      | none =>
        cases hh : h.1 with
        | none => exact .inl (by simp [Value.ownBlock])
        | some a => exact .inr (by simp [Value.ownBlock])
      | some a =>
        cases hh : h.1 with
        | none => exact .inl (by simp [Value.ownBlock])
        | some a' => exact .inr (by
            have := hd j r _ h a a' (by omega) hq h1 (by simp [hqa]) hh
            simp [Value.ownBlock]; omega)
    · have hjn : j = n := by omega
      subst hjn
      clear ho hu
      go_wp2
      go_ret
      exact ⟨rfl, hc⟩
end Go.Proofs.Ytkldejbhhbgefaa
