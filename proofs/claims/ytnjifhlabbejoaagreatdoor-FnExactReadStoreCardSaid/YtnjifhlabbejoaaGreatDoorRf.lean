/- ReadStore: the reference's numbers and features. -/
import Derived.Test.YtnjifhlabbejoaaGreatDoorDx
namespace Go.Proofs.YtnjifhlabbejoaaGreatDoor
open Go.ChangeShapes Go.WideShapes Go.ChangeAt Go.RowKit
set_option linter.unusedVariables false
set_option linter.unusedSimpArgs false
def allN (ps : List ByteArray) : Bool := ps.all fun p => (rdD p).isSome
def valN (ps : List ByteArray) : List Int := ps.map fun p => (rdD p).getD 0
theorem allN_step {ps : List ByteArray} {k : Nat} {p : ByteArray} (h : ps[k]? = some p) : allN (ps.take (k + 1)) = (allN (ps.take k) && (rdD p).isSome) := by
  unfold allN; rw [take_succ_of h, List.all_append]; simp
theorem wordS_all {x : ByteArray} (h : allN (splS 44 x) = false) : wordS x = none := by
  unfold wordS
  split
  · rename_i a b c h2
    exfalso
    have h3 : allN (splS 44 x) = ((splS 44 x).map rdD).all Option.isSome := by unfold allN; rw [List.all_map]; rfl
    rw [h2] at h3
    rw [h3] at h
    cases h
  · rfl
theorem wordS_of3 {x p0 p1 p2 : ByteArray} (h : splS 44 x = [p0, p1, p2]) (ha : allN (splS 44 x) = true) : wordS x = some ((rdD p0).getD 0, (rdD p1).getD 0, (rdD p2).getD 0) := by
  unfold allN at ha
  rw [h] at ha
  simp only [List.all_cons, List.all_nil, Bool.and_true, Bool.and_eq_true] at ha
  exact wordS_yes h (opt_some rfl ha.1) (opt_some rfl ha.2.1) (opt_some rfl ha.2.2)
set_option maxRecDepth 100000 in
set_option maxHeartbeats 4000000 in
theorem l03Numbers_any (A : Option Addr) (n c : Nat) (ps : List ByteArray) (w : World) (hr : RdL cs1 1 w w.heap.size A n c ps) (hn : n ≤ 1048577) (hs : ∀ x ∈ ps, x.size ≤ 1048576) :
    Calls Tryz.prog 44 #[.slice A n c] w fun e w' => ∃ A' c', e = .returned (.tuple #[.slice A' n c', .bool (allN ps)]) ∧ w'.ownsRow w.heap.size 2 1 (.slice A' n c') n ((valN ps).flatMap c1) ∧ Below w.heap.size w w' := by
  obtain ⟨i0, hi, hz0, hz1, hz2⟩ := info_parts (show (Tryz.prog.info? 2).map (fun i => (i.zero, i.size, i.bytes)) = some (some (.int .i64 0), 1, 8) by kernel_rfl)
  have HL := Lib.hid hr.len
  have HR := Lib.hid hr
  clear hr
  go_enter Tryz.func44, Tryz.ntmps44
  go_wp2_with fail
  go_loopw [4, 5, 6] (fun q al i wr => ∃ (k g c' : Nat) (bb : Bool), k ≤ n ∧ i = .int .i64 k ∧ q = .slice (some ⟨g, 0, none⟩) k c' ∧ al = .bool bb ∧ Hid (allN (ps.take k) = bb) ∧ Below w.heap.size w wr ∧ Hid (wr.ownsRow w.heap.size 2 1 (.slice (some ⟨g, 0, none⟩) k c') k ((valN (ps.take k)).flatMap c1))) (fun _ _ i _ => n - (intOf i).toNat)
  case atStart =>
    refine ⟨0, w.heap.size, 0, true, by omega, rfl, rfl, rfl, rfl, (by repeat (first | exact Below.refl _ _ | assumption | refine Below.drew ?_ | refine below_drewN ?_ _ | refine Below.alloc ?_ (by first | omega | (simp <;> omega)) _ | refine Below.setCell ?_ (by first | omega | (simp <;> omega)) _)), ?_⟩
    show World.ownsRow _ _ _ _ _ _ ((valN []).flatMap c1)
    rw [show (valN []).flatMap c1 = [] from rfl]
    simpa using World.ownsRow_lit (base := w.heap.size) (e := 2) (size := 1) w #[] 0 (Nat.le_refl _) (by simp [maxLen]) rfl
  case round =>
    obtain ⟨k, g, c', bb, hk, rfl, rfl, rfl, HA, hb, HO⟩ := hrel
    have hsz := hb.size
    by_cases hlt : k < n
    · obtain ⟨b, off, x, rfl, hbl, hxx, q0⟩ := (HR.out.on hb).atS hlt
      have hxs := hs x (List.mem_of_getElem? hxx.out)
      obtain ⟨v, hv⟩ : ∃ v, (rdD x).getD 0 = v := ⟨_, rfl⟩
      obtain ⟨u, hu⟩ : ∃ u, (rdD x).isSome = u := ⟨_, rfl⟩
      have HRD := Lib.hid (l01Number_any x wr hxs)
      rw [hv, hu] at HRD
      have HX : Hid (valN (ps.take (k + 1)) = valN (ps.take k) ++ [v]) := by show _ = _; unfold valN; rw [take_succ_of hxx.out, List.map_append, List.map_cons, List.map_nil, hv]
      have HA2 : Hid (allN (ps.take (k + 1)) = (bb && u)) := by show _ = _; rw [allN_step hxx.out, HA.out, hu]
      have i1 : (k : Int) < (n : Int) := by omega
      have i2 : (0 : Int) ≤ (k : Int) := by omega
      clear hv hu HA
      go_wp2_with fail
      with_reducible refine HRD.out.mono ?_
      rintro e w2 ⟨rfl, hb2⟩
      have HO2 := Lib.hid (own_below HO.out hb2)
      have HB2 := Lib.hid (below_app hb hb2 hsz)
      have hz2' := HB2.out.size
      clear HO hb hb2 q0 HRD
      cases bb
      all_goals
        go_wp2_with (at_builtin; with_reducible refine app_one _ c1_len one1 rfl (.tmp 28) (.tmp 30) 57 rfl w.heap.size 2 i0 _ Tryz.underlying57 hi hz0 hz1 hz2 rfl (by decide) (by decide) (some ⟨g, 0, none⟩) k c' _ rfl (HO2.out.alloc _) w2.heap.size 1 v rfl ?_ (by omega) ?_ ?_)
        · intro j u hu; have h8 := (Blk.new w2 2 #[.int .i64 v]).cell j; rw [h8]; simpa [c1] using hu
        · simp; omega
        · intro A3 c3 w3 hw3 hb3
          obtain ⟨g3, rfl, _, _⟩ := own_at hw3 (by omega)
          have HB3 := Lib.hid ((HB2.out.alloc hz2' _).trans hb3)
          have HO3 : Hid (w3.ownsRow w.heap.size 2 1 (.slice (some ⟨g3, 0, none⟩) (k + 1) c3) (k + 1) ((valN (ps.take (k + 1))).flatMap c1)) := by
            show World.ownsRow _ _ _ _ _ _ _
            rw [HX.out, flat_snoc]; exact hw3
          clear hw3 hb3
          go_wp2
          exact ⟨⟨k + 1, g3, c3, _, by omega, by go_num, rfl, rfl, by show _ = _; rw [HA2.out]; rfl, HB3.out, HO3.out⟩, by simp [intOf]; omega⟩
    · have hkn : k = n := by omega
      subst hkn
      rw [List.take_of_length_le (by rw [HL.out]; exact Nat.le_refl _)] at HO HA
      have HB := Lib.hid hb
      clear hb
      go_wp2
      go_ret2
      rw [HA.out]
      exact ⟨_, c', rfl, HO.out, HB.out⟩
set_option maxRecDepth 100000 in
set_option maxHeartbeats 4000000 in
theorem l11Feats_any (A : Option Addr) (n c : Nat) (ws : List ByteArray) (w : World) (hr : RdL cs1 1 w w.heap.size A n c ws) (hn : n ≤ 1048577) (hs : ∀ x ∈ ws, x.size ≤ 1048576) :
    Calls Tryz.prog 21 #[.slice A n c] w fun e w' => ((∃ (L : List T3) (A' : Option Addr) (c' : Nat), e = .returned (.tuple #[.slice A' n c', .bool true]) ∧ ws.map wordS = L.map some ∧ L.length = n ∧ w'.ownsRow w.heap.size 60 3 (.slice A' n c') n (L.flatMap c3)) ∨ ((∃ x ∈ ws, wordS x = none) ∧ e = .returned (.tuple #[.slice none 0 0, .bool false]))) ∧ Below w.heap.size w w' := by
  obtain ⟨i0, hi, hz0, hz1, hz2⟩ := info_parts (show (Tryz.prog.info? 60).map (fun i => (i.zero, i.size, i.bytes)) = some (some (.agg #[.int .i64 0, .int .i64 0, .int .i64 0]), 3, 24) by kernel_rfl)
  have HL := Lib.hid hr.len
  have HR := Lib.hid hr
  clear hr
  go_enter Tryz.func21, Tryz.ntmps21
  go_wp2_with fail
  go_loopw [4, 5] (fun q i wr => ∃ (k g c' : Nat) (L : List T3), k ≤ n ∧ i = .int .i64 k ∧ q = .slice (some ⟨g, 0, none⟩) k c' ∧ Hid ((ws.take k).map wordS = L.map some) ∧ Hid (L.length = k) ∧ Below w.heap.size w wr ∧ Hid (wr.ownsRow w.heap.size 60 3 (.slice (some ⟨g, 0, none⟩) k c') k (L.flatMap c3))) (fun _ i _ => n - (intOf i).toNat)
  case atStart =>
    refine ⟨0, w.heap.size, 0, [], by omega, rfl, rfl, rfl, rfl, (by repeat (first | exact Below.refl _ _ | assumption | refine Below.drew ?_ | refine below_drewN ?_ _ | refine Below.alloc ?_ (by first | omega | (simp <;> omega)) _ | refine Below.setCell ?_ (by first | omega | (simp <;> omega)) _)), ?_⟩
    show World.ownsRow _ _ _ _ _ _ _
    simpa using World.ownsRow_lit (base := w.heap.size) (e := 60) (size := 3) w #[] 0 (Nat.le_refl _) (by simp [maxLen]) rfl
  case round =>
    obtain ⟨k, g, c', L, hk, rfl, rfl, HM, HLL, hb, HO⟩ := hrel
    have hsz := hb.size
    by_cases hlt : k < n
    · obtain ⟨b, off, x, rfl, hbl, hxx, q0⟩ := (HR.out.on hb).atS hlt
      have hxm := Lib.hid (List.mem_of_getElem? hxx.out)
      have hxs := hs x hxm.out
      have HT := Lib.hid (take_succ_of hxx.out)
      have i1 : (k : Int) < (n : Int) := by omega
      have i2 : (0 : Int) ≤ (k : Int) := by omega
      obtain ⟨m, hm⟩ : ∃ m, (splS 44 x).length = m := ⟨_, rfl⟩
      have hmb : m ≤ 1048577 := by have := (splS_len 44 x).2; omega
      have HC := Lib.hid (l01Split_at 44 44 rfl x wr hxs)
      rw [hm] at HC
      have HMM := Lib.hid hm
      obtain ⟨al, hal⟩ : ∃ al, allN (splS 44 x) = al := ⟨_, rfl⟩
      have HAL := Lib.hid hal
      have hps : ∀ p ∈ splS 44 x, p.size ≤ 1048576 := fun p hp => by have := splS_size hp; omega
      have HPS := Lib.hid hps
      clear hxx hm hal hps
      go_wp2_with fail
      with_reducible refine HC.out.mono ?_
      rintro e w2 ⟨A2, c2', rfl, ho2, hb2⟩
      have HR2 := Lib.hid (RdL.of_own (f := cs1) (s := 1) HMM.out ho2)
      have HN := Lib.hid (l03Numbers_any _ _ _ _ w2 HR2.out hmb HPS.out)
      rw [HAL.out] at HN
      have HB2 := Lib.hid (below_app hb hb2 hsz)
      have HO2 := Lib.hid (own_below HO.out hb2)
      have hz2' := hb2.size
      have hgl := (HO.out.lt g rfl).2
      clear HO hb hb2 q0 HC ho2
      go_wp2_with fail
      with_reducible refine HN.out.mono ?_
      rintro e w3 ⟨A3, c3', rfl, ho3, hb3⟩
      have HB3 := Lib.hid (below_app HB2.out hb3 HB2.out.size)
      have HO3 := Lib.hid (own_below HO2.out hb3)
      have HV3 := Lib.hid ho3
      have hz3' := hb3.size
      clear HN HB2 HO2 hb3 ho3
      cases al with
      | false =>
        have HNO := Lib.hid (wordS_all HAL.out)
        go_wp2
        go_ret2
        exact ⟨.inr ⟨⟨x, hxm.out, HNO.out⟩, rfl⟩, HB3.out⟩
      | true =>
        by_cases h3 : m = 3
        · subst h3
          obtain ⟨p0, p1, p2, e3⟩ := len3 HMM.out
          have hw := wordS_of3 e3 HAL.out
          obtain ⟨a1, h1⟩ : ∃ a, (rdD p0).getD 0 = a := ⟨_, rfl⟩
          obtain ⟨a2, h2⟩ : ∃ a, (rdD p1).getD 0 = a := ⟨_, rfl⟩
          obtain ⟨a3, h3⟩ : ∃ a, (rdD p2).getD 0 = a := ⟨_, rfl⟩
          have hval : valN (splS 44 x) = [a1, a2, a3] := by rw [e3]; unfold valN; simp only [List.map_cons, List.map_nil, h1, h2, h3]
          rw [h1, h2, h3] at hw
          rw [hval] at HV3
          have HE4 : Hid ((ws.take (k + 1)).map wordS = (L ++ [(a1, a2, a3)]).map some) := by
            show _ = _
            rw [HT.out, List.map_append, List.map_append, HM.out]
            simp [hw]
          obtain ⟨g2, rfl, hg0, hg1⟩ := own_at HV3.out (by decide)
          have u0 : w3.cell? ⟨g2, 0, none⟩ = some (.int .i64 a1) := by have h9 := HV3.out.cellAt 0 (by decide); simpa [c1] using h9
          have u1 : w3.cell? ⟨g2, 1, none⟩ = some (.int .i64 a2) := by have h9 := HV3.out.cellAt 1 (by decide); simpa [c1] using h9
          have u2 : w3.cell? ⟨g2, 2, none⟩ = some (.int .i64 a3) := by have h9 := HV3.out.cellAt 2 (by decide); simpa [c1] using h9
          have FA : Hid (∀ ad, (some ⟨g, 0, none⟩ : Option Addr) = some ad → g2 ≠ ad.block) := fun ad h9 => by
            cases h9
            show g2 ≠ g
            omega
          have hzb := HB3.out.size
          clear h1 h2 h3 hw hval e3 HV3
          go_wp2_with fail
          go_region_held3 (fun w' => w'.cell? ⟨g2, 0, none⟩ = some (.int .i64 a1) ∧ w'.cell? ⟨g2, 1, none⟩ = some (.int .i64 a2) ∧ w'.cell? ⟨g2, 2, none⟩ = some (.int .i64 a3)) (first | exact ⟨u0, u1, u2⟩ | (go_split_ands; exact ⟨hst _ _ _ ‹_› (.inl FA.out), hst _ _ _ ‹_› (.inl FA.out), hst _ _ _ ‹_› (.inl FA.out)⟩) | go_keep) (first | ((refine step_keep _ c3_len one3 (by rfl) (.tmp 31) (.tmp 42) 38 (by rfl) w.heap.size 60 i0 _ Tryz.underlying38 hi hz0 hz1 hz2 rfl (by decide) (by decide) (some ⟨g, 0, none⟩) k c' _ (by rfl) (HO3.out.drew.alloc _) w3.heap.size 1 (a1, a2, a3) (by rfl) (news3 (Cell3.new _ _ _ _ _)) (by omega) (by simp; omega) ?_; intro A4 c4' w4 hw4 hb4 hst)))
          go_split_ands
          have hb9 : Below w.heap.size w w4 := (HB3.out.drew.alloc (by have := HB3.out.size; simpa using this) _).trans hb4
          obtain ⟨g4, rfl, _, _⟩ := own_at hw4 (by omega)
          have HB4 := Lib.hid hb9
          have HO4 := Lib.hid hw4
          clear hb9 hw4 hb4
          go_wp2
          exact ⟨⟨k + 1, g4, c4', L ++ [(a1, a2, a3)], by omega, by go_num, rfl, HE4.out, by show _ = _; rw [List.length_append, HLL.out]; rfl, HB4.out, HO4.out⟩, by simp [intOf]; omega⟩
        · have HNO := Lib.hid (wordS_len (x := x) (by rw [HMM.out]; exact h3))
          have k3 : ¬ (m : Int) = 3 := by omega
          go_wp2
          go_ret2
          exact ⟨.inr ⟨⟨x, hxm.out, HNO.out⟩, rfl⟩, HB3.out⟩
    · have hkn : k = n := by omega
      subst hkn
      rw [List.take_of_length_le (by rw [HL.out]; exact Nat.le_refl _)] at HM
      have HB := Lib.hid hb
      clear hb
      go_wp2
      go_ret2
      exact ⟨.inl ⟨L, _, c', rfl, HM.out, HLL.out, HO.out⟩, HB.out⟩
end Go.Proofs.YtnjifhlabbejoaaGreatDoor
