/- Reading: the reference's numbers, words and features. -/
import Derived.Test.YtnjifhlabbejoaaGreatDoorDw
namespace Go.Proofs.YtnjifhlabbejoaaGreatDoor
open Go.ChangeShapes Go.WideShapes Go.ChangeAt Go.RowKit
set_option linter.unusedVariables false
set_option linter.unusedSimpArgs false
def toB (l : List UInt8) : ByteArray := ⟨l.toArray⟩
theorem splS_toB (c : UInt8) (s : ByteArray) : splS c s = (spl c s.data.toList).map toB := rfl
theorem toB_drop (s : ByteArray) (f : Nat) : toB (s.data.toList.drop f) = s.extract f s.size := by
  rw [← Lib.extract_to_end]; exact toB_toList _
theorem toB_piece (s : ByteArray) (f i : Nat) : toB ((s.data.toList.drop f).take (i - f)) = s.extract f i := by
  rw [← toB_toList (s.extract f i)]
  congr 2
  rw [Lib.extract_data]
theorem drop_mem {l : List UInt8} {f : Nat} {c : UInt8} (h : c ∈ l.drop f) : ∃ j, f ≤ j ∧ l[j]? = some c := by
  obtain ⟨k, hk⟩ := List.mem_iff_getElem?.1 h
  rw [List.getElem?_drop] at hk
  exact ⟨f + k, by omega, hk⟩
theorem spl_end {s : ByteArray} {f : Nat} {c : UInt8} (h : ∀ j, f ≤ j → s.data.toList[j]? ≠ some c) : (spl c (s.data.toList.drop f)).map toB = [s.extract f s.size] := by
  rw [spl_miss c _ (fun hm => by obtain ⟨j, hj, he⟩ := drop_mem hm; exact h j hj he), List.map_cons, List.map_nil, toB_drop]
theorem spl_step {s : ByteArray} {f i : Nat} {c : UInt8} (hf : f ≤ i) (hi : s.data.toList[i]? = some c) (h : ∀ j, f ≤ j → j < i → s.data.toList[j]? ≠ some c) :
    (spl c (s.data.toList.drop f)).map toB = s.extract f i :: (spl c (s.data.toList.drop (i + 1))).map toB := by
  have e : s.data.toList.drop f = (s.data.toList.drop f).take (i - f) ++ c :: s.data.toList.drop (i + 1) := by
    have h1 := List.take_append_drop (i - f) (s.data.toList.drop f)
    rw [List.drop_drop, show f + (i - f) = i by omega, drop_of hi] at h1
    exact h1.symm
  have hn : c ∉ (s.data.toList.drop f).take (i - f) := by
    intro hm
    obtain ⟨k, hk⟩ := List.mem_iff_getElem?.1 hm
    rw [List.getElem?_take] at hk
    split at hk
    · rw [List.getElem?_drop] at hk
      exact h (f + k) (by omega) (by omega) hk
    · cases hk
  rw [e, spl_hit c _ _ hn, List.map_cons, toB_piece]
set_option maxRecDepth 100000 in
set_option maxHeartbeats 4000000 in
theorem l01Split_any (c : UInt8) (s : ByteArray) (w : World) (hs : s.size ≤ 1048576) :
    Calls Tryz.prog 9 #[.string s, .int .u8 (c.toNat : Int)] w fun e w' => ∃ A' c', e = .returned (.slice A' (splS c s).length c') ∧ w'.ownsRow w.heap.size 9 1 (.slice A' (splS c s).length c') (splS c s).length ((splS c s).flatMap cs1) ∧ Below w.heap.size w w' := by
  obtain ⟨i0, hi, hz0, hz1, hz2⟩ := info_parts (show (Tryz.prog.info? 9).map (fun i => (i.zero, i.size, i.bytes)) = some (some (.string ⟨#[]⟩), 1, 16) by kernel_rfl)
  go_enter Tryz.func9, Tryz.ntmps9
  go_wp2_with fail
  go_loopw [5, 6, 7] (fun q f i wr => ∃ (m g f' k c' : Nat) (D : List ByteArray), f' ≤ k ∧ k ≤ s.size ∧ m ≤ k ∧ f = .int .i64 f' ∧ i = .int .i64 k ∧ q = .slice (some ⟨g, 0, none⟩) m c' ∧ Hid (∀ j, f' ≤ j → j < k → s.data.toList[j]? ≠ some c) ∧ Hid (splS c s = D ++ (spl c (s.data.toList.drop f')).map toB) ∧ Hid (D.length = m) ∧ Below w.heap.size w wr ∧ Hid (wr.ownsRow w.heap.size 9 1 (.slice (some ⟨g, 0, none⟩) m c') m (D.flatMap cs1))) (fun _ _ i _ => s.size - (intOf i).toNat)
  case atStart =>
    refine ⟨0, w.heap.size, 0, 0, 0, [], by omega, by omega, by omega, rfl, rfl, rfl, (fun j h1 h2 => by omega), rfl, rfl, (by repeat (first | exact Below.refl _ _ | assumption | refine Below.drew ?_ | refine below_drewN ?_ _ | refine Below.alloc ?_ (by first | omega | (simp <;> omega)) _ | refine Below.setCell ?_ (by first | omega | (simp <;> omega)) _)), ?_⟩
    show World.ownsRow _ _ _ _ _ _ _
    simpa using World.ownsRow_lit (base := w.heap.size) (e := 9) (size := 1) w #[] 0 (Nat.le_refl _) (by simp [maxLen]) rfl
  case round =>
    obtain ⟨m, g, f', k, c', D, hfk, hk, hmk, rfl, rfl, rfl, HNC, HSP, HD, hb, HO⟩ := hrel
    have hsz := hb.size
    by_cases hlt : k < s.size
    · have i1 : (k : Int) < (s.size : Int) := by omega
      have i2 : (0 : Int) ≤ (k : Int) := by omega
      have hget := Lib.data_getElem? s k hlt
      by_cases hc : s[k] = c
      · rw [hc] at hget
        have kb : ((s[k].toNat : Int) == (c.toNat : Int)) = true := by rw [hc]; simp
        have HE : Hid (splS c s = (D ++ [s.extract f' k]) ++ (spl c (s.data.toList.drop (k + 1))).map toB) := by
          show _ = _
          rw [HSP.out, spl_step hfk hget HNC.out, List.append_assoc, List.singleton_append]
        clear hc hget HNC HSP
        go_wp2_with (at_builtin; with_reducible refine app_one _ cs1_len oneS1 rfl (.tmp 20) (.tmp 25) 30 rfl w.heap.size 9 i0 _ Tryz.underlying30 hi hz0 hz1 hz2 rfl (by decide) (by decide) (some ⟨g, 0, none⟩) m c' _ rfl (HO.out.alloc _) wr.heap.size 1 (s.extract f' k) rfl ?_ (by omega) ?_ ?_)
        · intro j u hu; have h8 := Cell1s.newF wr 9 (s.extract f' k) j u (by simpa using hu); simpa using h8
        · simp; omega
        · intro A3 c3 w3 hw3 hb3
          obtain ⟨g3, rfl, _, _⟩ := own_at hw3 (by omega)
          have HB3 := Lib.hid ((hb.alloc hsz _).trans hb3)
          have HO3 : Hid (w3.ownsRow w.heap.size 9 1 (.slice (some ⟨g3, 0, none⟩) (m + 1) c3) (m + 1) ((D ++ [s.extract f' k]).flatMap cs1)) := by
            show World.ownsRow _ _ _ _ _ _ _
            rw [flat_snoc]; exact hw3
          clear hw3 hb3 hb HO
          go_wp2
          exact ⟨⟨m + 1, g3, k + 1, k + 1, c3, D ++ [s.extract f' k], by omega, by omega, by omega, by go_num, by go_num, rfl, (fun j h1 h2 => by omega), HE.out, by show _ = _; rw [List.length_append, HD.out]; rfl, HB3.out, HO3.out⟩, by simp [intOf]; omega⟩
      · have kb : ((s[k].toNat : Int) == (c.toNat : Int)) = false := by
          apply beq_eq_false_iff_ne.2
          intro e
          exact hc (UInt8.toNat_inj.1 (by omega))
        have HNC2 : Hid (∀ j, f' ≤ j → j < k + 1 → s.data.toList[j]? ≠ some c) := by
          show ∀ j, _
          intro j h1 h2
          by_cases hj : j = k
          · subst hj; rw [hget]; intro e; exact hc (Option.some.inj e)
          · exact HNC.out j h1 (by omega)
        have HB3 := Lib.hid hb
        clear hc hget HNC hb
        go_wp2
        exact ⟨⟨m, g, f', k + 1, c', D, by omega, by omega, by omega, rfl, by go_num, rfl, HNC2.out, HSP.out, HD.out, HB3.out, HO.out⟩, by simp [intOf]; omega⟩
    · have hkn : k = s.size := by omega
      subst hkn
      have HE : Hid (splS c s = D ++ [s.extract f' s.size]) := by
        show _ = _
        rw [HSP.out, spl_end (fun j h1 => by
          by_cases hj : j < s.size
          · exact HNC.out j h1 hj
          · rw [List.getElem?_eq_none (by show _ ≤ _; have h9 : s.data.toList.length = s.size := by rw [Array.length_toList]; rfl
                                          omega)]
            intro e; cases e)]
      have HLN : Hid ((splS c s).length = m + 1) := by show _ = _; rw [HE.out, List.length_append, HD.out]; rfl
      clear HNC HSP
      go_wp2_with (at_builtin; with_reducible refine app_one _ cs1_len oneS1 rfl (.tmp 29) (.tmp 33) 30 rfl w.heap.size 9 i0 _ Tryz.underlying30 hi hz0 hz1 hz2 rfl (by decide) (by decide) (some ⟨g, 0, none⟩) m c' _ rfl (HO.out.alloc _) wr.heap.size 1 (s.extract f' s.size) rfl ?_ (by omega) ?_ ?_)
      · intro j u hu; have h8 := Cell1s.newF wr 9 (s.extract f' s.size) j u (by simpa using hu); simpa using h8
      · simp; omega
      · intro A3 c3 w3 hw3 hb3
        have HB3 := Lib.hid ((hb.alloc hsz _).trans hb3)
        have HO3 : Hid (w3.ownsRow w.heap.size 9 1 (.slice A3 (m + 1) c3) (m + 1) ((splS c s).flatMap cs1)) := by
          show World.ownsRow _ _ _ _ _ _ _
          rw [HE.out, flat_snoc]; exact hw3
        clear hw3 hb3 hb HO
        go_wp2
        go_ret
        rw [HLN.out]
        exact ⟨A3, c3, rfl, HO3.out, HB3.out⟩
theorem l01Split_at (c : UInt8) (i : Int) (hc : (c.toNat : Int) = i) (s : ByteArray) (w : World) (hs : s.size ≤ 1048576) :
    Calls Tryz.prog 9 #[.string s, .int .u8 i] w fun e w' => ∃ A' c', e = .returned (.slice A' (splS c s).length c') ∧ w'.ownsRow w.heap.size 9 1 (.slice A' (splS c s).length c') (splS c s).length ((splS c s).flatMap cs1) ∧ Below w.heap.size w w' := by
  subst hc; exact l01Split_any c s w hs
theorem l01Digit_any (c : Int) (w : World) : Calls Tryz.prog 42 #[.int .u8 c] w fun e w' => e = .returned (.bool (inB 48 57 c)) ∧ w = w' := by
  go_enter Tryz.func42, Tryz.ntmps42
  go_wp2
  all_goals
    go_ret
    exact ⟨ret_bool (by first | (rw [inB_lo ‹_›]; rfl) | (rw [inB_hi ‹_›]; rfl) | rw [inB_lo ‹_›] | rw [inB_hi ‹_›]), rfl⟩
theorem decFrom_stop {l : List UInt8} {k : Nat} {b : UInt8} (hb : l[k]? = some b) (h : Lib.digitVal b = none) : Lib.decFrom 0 l = none := by
  cases hd : Lib.decFrom 0 l with
  | none => rfl
  | some n =>
    obtain ⟨d, hd2⟩ := Lib.digit_of_decFrom l 0 n hd k b hb
    rw [h] at hd2; cases hd2
theorem numOf_of {l : List UInt8} {N : Nat} {v : Int} (h1 : 1 ≤ (magL l).length) (h2 : (magL l).length ≤ 18) (hF : Lib.decFrom 0 (magL l) = some N) (hv : (if (magL l).length < l.length then -(N : Int) else (N : Int)) = v) : numOf l = some v := by
  unfold numOf
  rw [if_neg (by omega), hF, Option.map_some, hv]
theorem numOf_bad {l : List UInt8} (hF : Lib.decFrom 0 (magL l) = none) : numOf l = none := by
  unfold numOf
  split
  · rfl
  · rw [hF]; rfl
theorem rdD_eq {s : ByteArray} {v : Int} (h : numOf s.data.toList = some v) (he : decS v = s) : rdD s = some v := by
  unfold rdD; rw [h]; simp only; rw [if_pos he]
theorem rdD_ne {s : ByteArray} {v : Int} (h : numOf s.data.toList = some v) (he : ¬ decS v = s) : rdD s = none := by
  unfold rdD; rw [h]; simp only; rw [if_neg he]
theorem rdD_nonum {s : ByteArray} (h : numOf s.data.toList = none) : rdD s = none := by
  unfold rdD; rw [h]
theorem bytes_form (s : ByteArray) (h : 0 < s.size) : s.data.toList = s[0] :: s.data.toList.drop 1 := by
  have h1 := drop_of (Lib.data_getElem? s 0 h)
  rw [List.drop_zero] at h1
  exact h1
set_option maxRecDepth 100000 in
set_option maxHeartbeats 4000000 in
theorem l01Number_any (s : ByteArray) (w : World) (hs : s.size ≤ 1048576) :
    Calls Tryz.prog 20 #[.string s] w fun e w' => e = .returned (.tuple #[.int .i64 ((rdD s).getD 0), .bool (rdD s).isSome]) ∧ Below w.heap.size w w' := by
  rcases Nat.eq_zero_or_pos s.size with h0 | h0
  · have hnil : s.data.toList = [] := List.length_eq_zero_iff.1 (by rw [Array.length_toList]; exact h0)
    have HN := Lib.hid (rdD_len (s := s) (by rw [hnil, magL_nil]; exact .inl (by decide)))
    have hl0 : s.toList = [] := by rw [byt_list]; exact hnil
    clear hnil
    go_enter Tryz.func20, Tryz.ntmps20
    go_wp2
    go_ret2
    rw [HN.out]
    exact ⟨rfl, Below.refl _ _⟩
  · have hget := Lib.data_getElem? s 0 h0
    have hform := bytes_form s h0
    have hne : ¬ s.toList = [] := by rw [byt_list, hform]; simp
    have hne2 : s.toList.isEmpty = false := by rw [byt_list, hform]; rfl
    by_cases hc : s[0] = 45
    · obtain ⟨T, hT⟩ : ∃ T, s.extract 1 s.size = T := ⟨_, rfl⟩
      have kb : ((s[0].toNat : Int) == 45) = true := by rw [hc]; rfl
      have hTL : T.data.toList = magL s.data.toList := by rw [← hT, Lib.extract_to_end, hform, hc, magL_minus]; rfl
      obtain ⟨m, hm⟩ : ∃ m, T.size = m := ⟨_, rfl⟩
      have hms : m + 1 = s.size := by rw [← hm, ← hT, ByteArray.size_extract]; omega
      clear hform
      by_cases hl : m < 1 ∨ 18 < m
      · have HN := Lib.hid (rdD_len (s := s) (by rw [← hTL, Array.length_toList]; show T.size < 1 ∨ 18 < T.size; rw [hm]; exact hl))
        have HTL := Lib.hid hTL
        clear hTL hget
        rcases hl with hl | hl
        · have k1 : (m : Int) < 1 := by omega
          go_enter Tryz.func20, Tryz.ntmps20
          go_wp2
          go_ret2
          rw [HN.out]
          exact ⟨rfl, Below.refl _ _⟩
        · have k1 : ¬ (m : Int) < 1 := by omega
          have k2 : (18 : Int) < (m : Int) := by omega
          go_enter Tryz.func20, Tryz.ntmps20
          go_wp2
          go_ret2
          rw [HN.out]
          exact ⟨rfl, Below.refl _ _⟩
      · have k1 : ¬ (m : Int) < 1 := by omega
        have k2 : ¬ (18 : Int) < (m : Int) := by omega
        have HTL := Lib.hid hTL
        clear hTL hget
        have HTM : Hid (T.data.toList.length = m) := by show _ = _; rw [Array.length_toList]; exact hm
        have hs18 : m ≤ 18 := by omega
        go_enter Tryz.func20, Tryz.ntmps20
        go_wp2_with fail
        go_loopw [5, 6] (fun v i wr => ∃ (k N : Nat), k ≤ m ∧ v = .int .i64 N ∧ i = .int .i64 k ∧ Hid (Lib.decFrom 0 (T.data.toList.take k) = some N) ∧ wr = w) (fun _ i _ => m - (intOf i).toNat)
        case atStart => exact ⟨0, 0, by omega, rfl, rfl, rfl, rfl⟩
        case round =>
          obtain ⟨k, N, hk, rfl, rfl, HF, rfl⟩ := hrel
          by_cases hlt : k < m
          · have hNb : N < 100000000000000000 := Lib.decFrom_take_lt HF.out (by omega)
            have i1 : (k : Int) < (m : Int) := by omega
            have i2 : (0 : Int) ≤ (k : Int) := by omega
            have hkT : k < T.size := by omega
            have hget := Lib.data_getElem? T k hkT
            obtain ⟨b, hb⟩ : ∃ b, T[k] = b := ⟨_, rfl⟩
            rw [hb] at hget
            cases hd : inB 48 57 (b.toNat : Int) with
            | true =>
              obtain ⟨d0, d1⟩ := inB_iff.1 hd
              obtain ⟨d, hdd⟩ : ∃ d : Nat, b.toNat - 48 = d := ⟨_, rfl⟩
              have HF2 : Hid (Lib.decFrom 0 (T.data.toList.take (k + 1)) = some (N * 10 + d)) := Lib.decFrom_take _ _ _ _ _ _ HF.out hget (by unfold Lib.digitVal; rw [if_pos (by omega), hdd])
              have HD := Lib.hid hd
              have o1 : IntKind.i64.wrap (10 * (N : Int)) = 10 * (N : Int) := IntWalk.i64_in _ (by omega)
              have o2 : ((b.toNat : Int) - 48) % 256 = (d : Int) := by omega
              have o3 : IntKind.i64.wrap (d : Int) = (d : Int) := IntWalk.i64_in _ (by omega)
              have o4 : IntKind.i64.wrap (10 * (N : Int) + (d : Int)) = 10 * (N : Int) + (d : Int) := IntWalk.i64_in _ (by omega)
              clear hd d0 d1 hdd hget HF
              go_wp2_with (first | (go_at_call 42; with_reducible refine (l01Digit_any _ _).mono ?_; rintro e w9 ⟨rfl, rfl⟩; rw [HD.out]))
              exact ⟨⟨k + 1, N * 10 + d, by omega, by go_num, by go_num, HF2.out, by first | rfl | trivial⟩, by simp [intOf]; omega⟩
            | false =>
              have HN : Hid (rdD s = none) := rdD_nonum (numOf_bad (by rw [← HTL.out]; exact decFrom_stop hget (by rw [inB] at hd; unfold Lib.digitVal; rw [if_neg (fun h => by have := inB_iff.2 (show (48 : Int) ≤ (b.toNat : Int) ∧ (b.toNat : Int) ≤ 57 by omega); rw [inB] at this; rw [this] at hd; cases hd)])))
              have HD := Lib.hid hd
              clear hd hget HF
              go_wp2_with (first | (go_at_call 42; with_reducible refine (l01Digit_any _ _).mono ?_; rintro e w9 ⟨rfl, rfl⟩; rw [HD.out]))
              go_ret2
              rw [HN.out]
              exact ⟨rfl, Below.refl _ _⟩
          · have hkm : k = m := by omega
            subst hkm
            rw [List.take_of_length_le (by rw [HTM.out]; exact Nat.le_refl _)] at HF
            have hNb := Lib.decFrom_lt18 HF.out (by rw [HTM.out]; exact hs18)
            have HV : Hid (numOf s.data.toList = some (-(N : Int))) := numOf_of (by rw [← HTL.out, HTM.out]; omega) (by rw [← HTL.out, HTM.out]; omega) (by rw [← HTL.out]; exact HF.out) (by rw [← HTL.out, HTM.out]; rw [if_pos (by rw [Array.length_toList]; show _ < s.size; omega)])
            have hI : I64 (-(N : Int)) := ⟨by omega, by omega⟩
            have o1 : IntKind.i64.wrap (-(N : Int)) = -(N : Int) := IntWalk.i64_in _ (by omega)
            have k3 : (k : Int) < (s.size : Int) := by omega
            obtain ⟨v, hv⟩ : ∃ v, (-(N : Int)) = v := ⟨_, rfl⟩
            rw [hv] at HV hI o1
            by_cases he : decS v = s
            · have HN := Lib.hid (rdD_eq HV.out he)
              have HE := Lib.hid he
              have HC := Lib.hid (fun w => l01Dec_any v w hI)
              clear he
              go_wp2_with fail
              try rw [hv]
              with_reducible refine (HC.out _).mono ?_
              rintro e w3 ⟨rfl, hb3⟩
              rw [HE.out]
              go_wp2
              go_ret2
              rw [HN.out]
              exact ⟨by first | rfl | (subst hv; rfl), hb3⟩
            · have HN := Lib.hid (rdD_ne HV.out he)
              have HE := Lib.hid (byt_ne he)
              have HC := Lib.hid (fun w => l01Dec_any v w hI)
              clear he
              go_wp2_with fail
              try rw [hv]
              with_reducible refine (HC.out _).mono ?_
              rintro e w3 ⟨rfl, hb3⟩
              have hE := HE.out
              go_wp2
              go_ret2
              rw [HN.out]
              exact ⟨rfl, hb3⟩
    · obtain ⟨T, hT⟩ : ∃ T, s = T := ⟨_, rfl⟩
      have kb : ((s[0].toNat : Int) == 45) = false := beq_eq_false_iff_ne.2 (fun e => hc (UInt8.toNat_inj.1 (by have h9 : (45 : UInt8).toNat = 45 := rfl; omega)))
      have hTL : T.data.toList = magL s.data.toList := by rw [← hT, hform, magL_other hc]
      obtain ⟨m, hm⟩ : ∃ m, T.size = m := ⟨_, rfl⟩
      clear hform
      by_cases hl : m < 1 ∨ 18 < m
      · have HN := Lib.hid (rdD_len (s := s) (by rw [← hTL, Array.length_toList]; show T.size < 1 ∨ 18 < T.size; rw [hm]; exact hl))
        have HTL := Lib.hid hTL
        clear hTL hget
        rcases hl with hl | hl
        · have k1 : (m : Int) < 1 := by omega
          subst hT
          subst hm
          go_enter Tryz.func20, Tryz.ntmps20
          go_wp2
          go_ret2
          rw [HN.out]
          exact ⟨rfl, Below.refl _ _⟩
        · have k1 : ¬ (m : Int) < 1 := by omega
          have k2 : (18 : Int) < (m : Int) := by omega
          subst hT
          subst hm
          go_enter Tryz.func20, Tryz.ntmps20
          go_wp2
          go_ret2
          rw [HN.out]
          exact ⟨rfl, Below.refl _ _⟩
      · have k1 : ¬ (m : Int) < 1 := by omega
        have k2 : ¬ (18 : Int) < (m : Int) := by omega
        have HTL := Lib.hid hTL
        clear hTL hget
        have HTM : Hid (T.data.toList.length = m) := by show _ = _; rw [Array.length_toList]; exact hm
        have hs18 : m ≤ 18 := by omega
        subst hT
        go_enter Tryz.func20, Tryz.ntmps20
        go_wp2_with fail
        go_loopw [5, 6] (fun v i wr => ∃ (k N : Nat), k ≤ m ∧ v = .int .i64 N ∧ i = .int .i64 k ∧ Hid (Lib.decFrom 0 (s.data.toList.take k) = some N) ∧ wr = w) (fun _ i _ => m - (intOf i).toNat)
        case atStart => exact ⟨0, 0, by omega, rfl, rfl, rfl, rfl⟩
        case round =>
          obtain ⟨k, N, hk, rfl, rfl, HF, rfl⟩ := hrel
          by_cases hlt : k < m
          · have hNb : N < 100000000000000000 := Lib.decFrom_take_lt HF.out (by omega)
            have i1 : (k : Int) < (m : Int) := by omega
            have i2 : (0 : Int) ≤ (k : Int) := by omega
            have hkT : k < s.size := by omega
            have hget := Lib.data_getElem? s k hkT
            obtain ⟨b, hb⟩ : ∃ b, s[k] = b := ⟨_, rfl⟩
            rw [hb] at hget
            cases hd : inB 48 57 (b.toNat : Int) with
            | true =>
              obtain ⟨d0, d1⟩ := inB_iff.1 hd
              obtain ⟨d, hdd⟩ : ∃ d : Nat, b.toNat - 48 = d := ⟨_, rfl⟩
              have HF2 : Hid (Lib.decFrom 0 (s.data.toList.take (k + 1)) = some (N * 10 + d)) := Lib.decFrom_take _ _ _ _ _ _ HF.out hget (by unfold Lib.digitVal; rw [if_pos (by omega), hdd])
              have HD := Lib.hid hd
              have o1 : IntKind.i64.wrap (10 * (N : Int)) = 10 * (N : Int) := IntWalk.i64_in _ (by omega)
              have o2 : ((b.toNat : Int) - 48) % 256 = (d : Int) := by omega
              have o3 : IntKind.i64.wrap (d : Int) = (d : Int) := IntWalk.i64_in _ (by omega)
              have o4 : IntKind.i64.wrap (10 * (N : Int) + (d : Int)) = 10 * (N : Int) + (d : Int) := IntWalk.i64_in _ (by omega)
              clear hd d0 d1 hdd hget HF
              go_wp2_with (first | (go_at_call 42; with_reducible refine (l01Digit_any _ _).mono ?_; rintro e w9 ⟨rfl, rfl⟩; rw [HD.out]))
              exact ⟨⟨k + 1, N * 10 + d, by omega, by go_num, by go_num, HF2.out, by first | rfl | trivial⟩, by simp [intOf]; omega⟩
            | false =>
              have HN : Hid (rdD s = none) := rdD_nonum (numOf_bad (by rw [← HTL.out]; exact decFrom_stop hget (by rw [inB] at hd; unfold Lib.digitVal; rw [if_neg (fun h => by have := inB_iff.2 (show (48 : Int) ≤ (b.toNat : Int) ∧ (b.toNat : Int) ≤ 57 by omega); rw [inB] at this; rw [this] at hd; cases hd)])))
              have HD := Lib.hid hd
              clear hd hget HF
              go_wp2_with (first | (go_at_call 42; with_reducible refine (l01Digit_any _ _).mono ?_; rintro e w9 ⟨rfl, rfl⟩; rw [HD.out]))
              go_ret2
              rw [HN.out]
              exact ⟨rfl, Below.refl _ _⟩
          · have hkm : k = m := by omega
            subst hkm
            rw [List.take_of_length_le (by rw [HTM.out]; exact Nat.le_refl _)] at HF
            have hNb := Lib.decFrom_lt18 HF.out (by rw [HTM.out]; exact hs18)
            have HV : Hid (numOf s.data.toList = some (N : Int)) := numOf_of (by rw [← HTL.out, HTM.out]; omega) (by rw [← HTL.out, HTM.out]; omega) (by rw [← HTL.out]; exact HF.out) (by rw [← HTL.out, HTM.out]; rw [if_neg (Nat.lt_irrefl _)])
            have hI : I64 (N : Int) := ⟨by omega, by omega⟩
            obtain ⟨v, hv⟩ : ∃ v, (N : Int) = v := ⟨_, rfl⟩
            rw [hv] at HV hI
            by_cases he : decS v = s
            · have HN := Lib.hid (rdD_eq HV.out he)
              have HE := Lib.hid he
              have HC := Lib.hid (fun w => l01Dec_any v w hI)
              clear he
              go_wp2_with fail
              try rw [hv]
              with_reducible refine (HC.out _).mono ?_
              rintro e w3 ⟨rfl, hb3⟩
              rw [HE.out]
              go_wp2
              go_ret2
              rw [HN.out]
              exact ⟨by first | rfl | (subst hv; rfl), hb3⟩
            · have HN := Lib.hid (rdD_ne HV.out he)
              have HE := Lib.hid (byt_ne he)
              have HC := Lib.hid (fun w => l01Dec_any v w hI)
              clear he
              go_wp2_with fail
              try rw [hv]
              with_reducible refine (HC.out _).mono ?_
              rintro e w3 ⟨rfl, hb3⟩
              have hE := HE.out
              go_wp2
              go_ret2
              rw [HN.out]
              exact ⟨rfl, hb3⟩
theorem opt_some {o : Option Int} {v : Int} (hv : o.getD 0 = v) (hb : o.isSome = true) : o = some v := by
  cases o with
  | none => cases hb
  | some x => subst hv; rfl
theorem opt_none {o : Option Int} (hb : o.isSome = false) : o = none := by
  cases o with
  | none => rfl
  | some x => cases hb
theorem wordS_no {x p0 p1 p2 : ByteArray} (h : splS 44 x = [p0, p1, p2]) (hn : rdD p0 = none ∨ rdD p1 = none ∨ rdD p2 = none) : wordS x = none := by
  unfold wordS
  rw [h]
  split
  · rename_i a b c h2
    simp only [List.map_cons, List.map_nil, List.cons.injEq, and_true] at h2
    obtain ⟨e0, e1, e2⟩ := h2
    rw [e0, e1, e2] at hn
    rcases hn with h | h | h <;> cases h
  · rfl
theorem wordS_len {x : ByteArray} (h : (splS 44 x).length ≠ 3) : wordS x = none := by
  unfold wordS
  split
  · rename_i a b c h2
    have h3 := congrArg List.length h2
    rw [List.length_map] at h3
    exact absurd h3 h
  · rfl
theorem wordS_yes {x p0 p1 p2 : ByteArray} {a b c : Int} (h : splS 44 x = [p0, p1, p2]) (h0 : rdD p0 = some a) (h1 : rdD p1 = some b) (h2 : rdD p2 = some c) : wordS x = some (a, b, c) := by
  unfold wordS
  rw [h]
  simp only [List.map_cons, List.map_nil, h0, h1, h2]
end Go.Proofs.YtnjifhlabbejoaaGreatDoor
