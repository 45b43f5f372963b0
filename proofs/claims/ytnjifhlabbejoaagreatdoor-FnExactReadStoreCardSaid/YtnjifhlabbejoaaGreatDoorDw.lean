/- Reading: the program's numbers, words and features. -/
import Derived.Test.YtnjifhlabbejoaaGreatDoorDq
import Derived.Test.YtnjifhlabbejoaaGreatDoorSh
import Derived.Lib.SmallJoins
namespace Go.Proofs.YtnjifhlabbejoaaGreatDoor
open Go.ChangeShapes Go.WideShapes Go.ChangeAt Go.RowKit
set_option linter.unusedVariables false
set_option linter.unusedSimpArgs false
def errV (v : Value) : Prop := v = .nilIface ∨ ∃ te pe, v = .iface te pe
/-- What reading asks of the library's variables. -/
structure RdW (w : World) : Prop where
  tab : TabD w
  len : ∃ m : Int, w.cell? ⟨2, 0, none⟩ = some (.int .i64 m)
  syn : ∃ ev, w.cell? ⟨0, 0, none⟩ = some ev ∧ errV ev
  rng : ∃ ev, w.cell? ⟨1, 0, none⟩ = some ev ∧ errV ev
theorem RdW.on {w w' : World} (h : RdW w) (hb : Below w.heap.size w w') : RdW w' := by
  obtain ⟨t, ⟨m, hm⟩, ⟨e2, h2, k2⟩, ⟨e3, h3, k3⟩⟩ := h
  exact ⟨t.on hb, ⟨m, cell_on hm hb⟩, ⟨e2, cell_on h2 hb, k2⟩, ⟨e3, cell_on h3 hb, k3⟩⟩
theorem flat_cs1 (ss : List ByteArray) : ss.flatMap cs1 = ss.map Value.string := by
  induction ss with
  | nil => rfl
  | cons s ss ih => rw [List.flatMap_cons, ih]; rfl
theorem rd_cells (w : World) (ss : List ByteArray) (t : TypeId) (h : ss.length ≤ 1048577) : RdL cs1 1 (w.alloc (.cells (ss.map Value.string).toArray t)) (w.alloc (.cells (ss.map Value.string).toArray t)).heap.size (some ⟨w.heap.size, 0, none⟩) ss.length ss.length ss := by
  have K := Blk.new w t (ss.map Value.string).toArray
  refine ⟨rfl, by rw [flat_cs1]; simp, Nat.le_refl _, by unfold maxLen; omega, fun _ => ⟨w.heap.size, 0, rfl, K.lt, fun j u hu => ?_⟩⟩
  rw [flat_cs1] at hu
  rw [Nat.zero_add, K.cell j]
  simpa using hu
theorem byt_list (s : ByteArray) : s.toList = s.data.toList := ByteArray.toList_eq s
theorem byt_ne {a b : ByteArray} (h : ¬ a = b) : (a.toList == b.toList) = false := by
  rw [byt_list, byt_list]
  exact beq_eq_false_iff_ne.2 (fun e => h (by rw [← toB_toList a, ← toB_toList b, e]))
theorem iSplit_any (c : UInt8) (s : ByteArray) (w : World) (hs : s.size ≤ 1048576) (hw : RdW w) :
    Calls Tryz.prog 24 #[.string s, .string ⟨#[c]⟩] w fun e w' => ∃ A, e = .returned (.slice A (splS c s).length (splS c s).length) ∧ RdL cs1 1 w' w'.heap.size A (splS c s).length (splS c s).length (splS c s) ∧ Below w.heap.size w w' := by
  obtain ⟨m, hm⟩ := hw.len
  refine (Tryz.strings_Split s ⟨#[c]⟩ m w (by omega) hm (by show 1 ≤ 1; decide)).mono ?_
  rintro e w' ⟨rfl, rfl⟩
  rw [countB_spl, splitB_spl]
  have h2 := (splS_len c s).2
  exact ⟨_, rfl, rd_cells w _ _ (by omega), (Below.refl _ _).alloc (Nat.le_refl _) _⟩
theorem wordsOf_any (s : ByteArray) (w : World) (hs : s.size ≤ 1048576) (hw : RdW w) :
    Calls Tryz.prog 12 #[.string s] w fun e w' => ∃ A, e = .returned (.slice A (splS 32 s).length (splS 32 s).length) ∧ RdL cs1 1 w' w'.heap.size A (splS 32 s).length (splS 32 s).length (splS 32 s) ∧ Below w.heap.size w w' := by
  go_enter Tryz.func12, Tryz.ntmps12
  go_wp2_with fail
  with_reducible refine (iSplit_any 32 s _ hs hw).mono ?_
  rintro e w1 ⟨A, rfl, hr, hb⟩
  have HR := Lib.hid hr
  clear hr
  go_wp2
  go_ret
  exact ⟨A, rfl, HR.out, hb⟩
theorem iParse_bad (s : ByteArray) (w : World) (hs : s.size ≤ 1048576) (hw : RdW w) (h : ∀ v, Lib.parseIntB 64 s.data.toList ≠ .ok v) :
    Calls Tryz.prog 27 #[.string s, .int .i64 10, .int .i64 64] w fun e w' => ∃ (z : Int) (g : Nat), e = .returned (.tuple #[.int .i64 z, .iface 97 (.pointer (some ⟨g, 0, none⟩))]) ∧ Below w.heap.size w w' := by
  rcases hp : Lib.parseIntB 64 s.data.toList with v | _ | _
  · exact absurd hp (h v)
  · obtain ⟨ev, hv, hev⟩ := hw.syn
    refine (Any.strconv_ParseInt_10_at64_syntax Tryz.laysC174 s (by omega) hp ev w hv hev).mono ?_
    rintro e w' ⟨g, rfl, _, _, hb⟩
    exact ⟨_, g, rfl, hb⟩
  · obtain ⟨ev, hv, hev⟩ := hw.rng
    refine (Any.strconv_ParseInt_10_at64_range Tryz.laysC174 s (by omega) hp ev w hv hev).mono ?_
    rintro e w' ⟨g, rfl, _, _, hb⟩
    exact ⟨_, g, rfl, hb⟩
set_option maxHeartbeats 4000000 in
theorem iReadDecimal_any (s : ByteArray) (w : World) (hs : s.size ≤ 1048576) (hw : RdW w) :
    Calls Tryz.prog 13 #[.string s] w fun e w' => e = .returned (.tuple #[.int .i64 ((rdD s).getD 0), .bool (rdD s).isSome]) ∧ Below w.heap.size w w' := by
  have HW := Lib.hid hw
  clear hw
  obtain ⟨T, hT⟩ : ∃ T : ByteArray, (⟨(Lib.trimPrefix s.data.toList (⟨#[45]⟩ : ByteArray).data.toList).toArray⟩ : ByteArray) = T := ⟨_, rfl⟩
  have hTs : T.size = (magL s.data.toList).length := by rw [← hT]; show (List.toArray _).size = _; rw [List.size_toArray]; rfl
  have HTP := Lib.hid (Tryz.strings_TrimPrefix s ⟨#[45]⟩)
  simp only [hT] at HTP
  clear hT
  by_cases hl : T.size < 1 ∨ 18 < T.size
  · have HN := Lib.hid (rdD_len (s := s) (by rw [← hTs]; exact hl))
    clear hTs
    rcases hl with hl | hl
    · have k1 : (T.size : Int) < 1 := by omega
      go_enter Tryz.func13, Tryz.ntmps13
      go_wp2_with fail
      with_reducible refine (HTP.out _).mono ?_
      rintro e w1 ⟨rfl, rfl⟩
      go_wp2
      go_ret2
      rw [HN.out]
      exact ⟨rfl, Below.refl _ _⟩
    · have k1 : ¬ (T.size : Int) < 1 := by omega
      have k2 : (18 : Int) < (T.size : Int) := by omega
      go_enter Tryz.func13, Tryz.ntmps13
      go_wp2_with fail
      with_reducible refine (HTP.out _).mono ?_
      rintro e w1 ⟨rfl, rfl⟩
      go_wp2
      go_ret2
      rw [HN.out]
      exact ⟨rfl, Below.refl _ _⟩
  · have k1 : ¬ (T.size : Int) < 1 := by omega
    have k2 : ¬ (18 : Int) < (T.size : Int) := by omega
    cases hp : Lib.parseIntB 64 s.data.toList with
    | ok v =>
      have hbd := Lib.parseIntB_bounds hp
      have hv : I64 v := ⟨by have := hbd.1; omega, by have := hbd.2; omega⟩
      have HP := Lib.hid (fun w => Tryz.strconv_ParseInt_10_at64_ok s (by omega) v hp w)
      by_cases he : decS v = s
      · have HN := Lib.hid (rdD_hit (s := s) (v := v) (by omega) (by omega) he)
        have HE := Lib.hid he
        clear hTs hl hp he hbd
        go_enter Tryz.func13, Tryz.ntmps13
        go_wp2_with fail
        with_reducible refine (HTP.out _).mono ?_
        rintro e w1 ⟨rfl, rfl⟩
        go_wp2_with fail
        with_reducible refine (HP.out _).mono ?_
        rintro e w2 ⟨rfl, hw2⟩
        have HB2 : Hid (Below w1.heap.size w1 w2) := by
          show Below _ _ _
          rcases hw2 with rfl | ⟨t, rfl⟩
          · exact Below.refl _ _
          · exact Joins.below_bytesWorld _ _ _ _ (Nat.le_refl _)
        clear hw2
        have HT2 := Lib.hid (HW.out.on HB2.out).tab
        go_wp2_with fail
        with_reducible refine (iDecimal_any v _ hv HT2.out).mono ?_
        rintro e w3 ⟨rfl, hb3⟩
        rw [HE.out]
        have HB3 := Lib.hid (below_on hb3 HB2.out)
        clear hb3
        go_wp2
        go_ret2
        rw [HN.out]
        exact ⟨rfl, HB3.out⟩
      · have HN := Lib.hid (rdD_miss (s := s) (v := v) hp he)
        have HE : Hid (((decS v).toList == s.toList) = false) := byt_ne he
        clear hTs hl hp hbd
        go_enter Tryz.func13, Tryz.ntmps13
        go_wp2_with fail
        with_reducible refine (HTP.out _).mono ?_
        rintro e w1 ⟨rfl, rfl⟩
        go_wp2_with fail
        with_reducible refine (HP.out _).mono ?_
        rintro e w2 ⟨rfl, hw2⟩
        have HB2 : Hid (Below w1.heap.size w1 w2) := by
          show Below _ _ _
          rcases hw2 with rfl | ⟨t, rfl⟩
          · exact Below.refl _ _
          · exact Joins.below_bytesWorld _ _ _ _ (Nat.le_refl _)
        clear hw2
        have HT2 := Lib.hid (HW.out.on HB2.out).tab
        go_wp2_with fail
        with_reducible refine (iDecimal_any v _ hv HT2.out).mono ?_
        rintro e w3 ⟨rfl, hb3⟩
        have HE2 := HE.out
        have HB3 := Lib.hid (below_on hb3 HB2.out)
        clear hb3
        go_wp2
        go_ret2
        rw [HN.out]
        exact ⟨rfl, HB3.out⟩
    | _ =>
      have HBAD : ∀ v, Lib.parseIntB 64 s.data.toList ≠ .ok v := by rw [hp]; intro v h; cases h
      have HN := Lib.hid (rdD_bad HBAD)
      have HP := Lib.hid (iParse_bad s _ hs HW.out HBAD)
      clear hTs hl hp HBAD
      go_enter Tryz.func13, Tryz.ntmps13
      go_wp2_with fail
      with_reducible refine (HTP.out _).mono ?_
      rintro e w1 ⟨rfl, rfl⟩
      go_wp2_with fail
      with_reducible refine HP.out.mono ?_
      rintro e w2 ⟨z, g, rfl, hb2⟩
      go_wp2
      go_ret2
      rw [HN.out]
      exact ⟨rfl, hb2⟩
set_option maxHeartbeats 4000000 in
theorem numbersOf_any (s : ByteArray) (w : World) (hs : s.size ≤ 1048576) (hw : RdW w) :
    Calls Tryz.prog 29 #[.string s] w fun e w' => ∃ A' c', e = .returned (.slice A' (numsL s).length c') ∧ w'.ownsRow w.heap.size 2 1 (.slice A' (numsL s).length c') (numsL s).length ((numsL s).flatMap c1) ∧ Below w.heap.size w w' := by
  obtain ⟨i0, hi, hz0, hz1, hz2⟩ := info_parts (show (Tryz.prog.info? 2).map (fun i => (i.zero, i.size, i.bytes)) = some (some (.int .i64 0), 1, 8) by kernel_rfl)
  have HW := Lib.hid hw
  clear hw
  obtain ⟨h1, h2⟩ := splS_len 44 s
  have HL := Lib.hid (numsL_len s)
  obtain ⟨n, hn⟩ : ∃ n, (splS 44 s).length = n := ⟨_, rfl⟩
  rw [hn] at h1 h2
  have HN := Lib.hid hn
  clear hn
  go_enter Tryz.func29, Tryz.ntmps29
  go_wp2_with fail
  with_reducible refine (iSplit_any 44 s _ hs HW.out).mono ?_
  rintro e w1 ⟨AS, rfl, hr, hb1⟩
  rw [HN.out] at hr ⊢
  have HW1 := Lib.hid (HW.out.on hb1)
  have HB1 := Lib.hid hb1
  have HR := Lib.hid hr
  clear hb1 hr
  go_wp2_with fail
  go_loopw [3, 11] (fun q i wr => ∃ (k c' : Nat) (A' : Option Addr), k ≤ n ∧ i = .int .i64 k ∧ q = .slice A' k c' ∧ Below w1.heap.size w1 wr ∧ Hid (wr.ownsRow w1.heap.size 2 1 (.slice A' k c') k (((numsL s).take k).flatMap c1))) (fun _ i _ => n - (intOf i).toNat)
  case atStart => exact ⟨0, 0, none, by omega, rfl, rfl, Below.refl _ _, World.ownsRow_nil _ _ _ _⟩
  case round =>
    obtain ⟨k, c', A', hk, rfl, rfl, hb, HO⟩ := hrel
    have hsz := hb.size
    by_cases hlt : k < n
    · obtain ⟨b, off, x, rfl, hbl, hxx, q0⟩ := (HR.out.on hb).atS hlt
      have hxs := splS_size (List.mem_of_getElem? hxx.out)
      have HX : Hid ((numsL s).take (k + 1) = (numsL s).take k ++ [(rdD x).getD 0]) := by
        show _ = _
        exact take_succ_of (by unfold numsL; rw [List.getElem?_map, hxx.out]; rfl)
      have HW2 := Lib.hid (HW1.out.on hb)
      obtain ⟨v, hv⟩ : ∃ v, (rdD x).getD 0 = v := ⟨_, rfl⟩
      obtain ⟨u, hu⟩ : ∃ u, (rdD x).isSome = u := ⟨_, rfl⟩
      have HRD := Lib.hid (iReadDecimal_any x wr (by omega) HW2.out)
      rw [hv, hu] at HRD
      rw [hv] at HX
      have i1 : (k : Int) < (n : Int) := by omega
      have i2 : (0 : Int) ≤ (k : Int) := by omega
      clear hv hu
      go_wp2_with fail
      with_reducible refine HRD.out.mono ?_
      rintro e w2 ⟨rfl, hb2⟩
      have HO2 := Lib.hid (own_below HO.out hb2)
      have HB2 := Lib.hid (below_app hb hb2 hsz)
      have hz2' := HB2.out.size
      clear HO hb hb2 q0 HRD
      go_wp2_with (at_builtin; with_reducible refine app_one _ c1_len one1 rfl (.tmp 20) (.tmp 22) 57 rfl w1.heap.size 2 i0 _ Tryz.underlying57 hi hz0 hz1 hz2 rfl (by decide) (by decide) A' k c' _ rfl (HO2.out.alloc _) w2.heap.size 1 v rfl ?_ (by omega) ?_ ?_)
      · intro j u hu; have h8 := (Blk.new w2 2 #[.int .i64 v]).cell j; rw [h8]; simpa [c1] using hu
      · simp; omega
      · intro A3 c3 w3 hw3 hb3
        have HB3 := Lib.hid ((HB2.out.alloc hz2' _).trans hb3)
        have HO3 : Hid (w3.ownsRow w1.heap.size 2 1 (.slice A3 (k + 1) c3) (k + 1) (((numsL s).take (k + 1)).flatMap c1)) := by
          show World.ownsRow _ _ _ _ _ _ _
          rw [HX.out, flat_snoc]; exact hw3
        clear hw3 hb3
        go_wp2
        exact ⟨⟨k + 1, c3, A3, by omega, by go_num, rfl, HB3.out, HO3.out⟩, by simp [intOf]; omega⟩
    · have hkn : k = n := by omega
      subst hkn
      have HM : Hid ((numsL s).length = k) := by show _ = _; rw [HL.out, HN.out]
      rw [List.take_of_length_le (by rw [HM.out]; exact Nat.le_refl _)] at HO
      have HB := Lib.hid (below_on hb HB1.out)
      have HZ := Lib.hid HB1.out.size
      clear hb
      go_wp2
      go_ret
      rw [HM.out]
      exact ⟨A', c', rfl, own_mono HO.out HZ.out, HB.out⟩
theorem numsL_three {s : ByteArray} (h : (numsL s).length = 3) : ∃ a b c, numsL s = [a, b, c] ∧ wordI s = some (a, b, c) := by
  obtain ⟨a, b, c, e⟩ := len3 h
  exact ⟨a, b, c, e, wordI_some e⟩
set_option maxRecDepth 100000 in
set_option maxHeartbeats 4000000 in
theorem readFeatWords_any (A : Option Addr) (n c : Nat) (ws : List ByteArray) (w : World) (hr : RdL cs1 1 w w.heap.size A n c ws) (hn : n ≤ 1048577) (hs : ∀ x ∈ ws, x.size ≤ 1048576) (hw : RdW w) :
    Calls Tryz.prog 14 #[.slice A n c] w fun e w' => ((∃ (L : List T3) (A' : Option Addr) (c' : Nat), e = .returned (.tuple #[.slice A' n c', .bool true]) ∧ ws.map wordI = L.map some ∧ L.length = n ∧ (∀ x ∈ L, ok3 x) ∧ w'.ownsRow w.heap.size 60 3 (.slice A' n c') n (L.flatMap c3)) ∨ ((∃ x ∈ ws, wordI x = none) ∧ e = .returned (.tuple #[.slice none 0 0, .bool false]))) ∧ Below w.heap.size w w' := by
  obtain ⟨i0, hi, hz0, hz1, hz2⟩ := info_parts (show (Tryz.prog.info? 60).map (fun i => (i.zero, i.size, i.bytes)) = some (some (.agg #[.int .i64 0, .int .i64 0, .int .i64 0]), 3, 24) by kernel_rfl)
  have HW := Lib.hid hw
  have HL := Lib.hid hr.len
  have HR := Lib.hid hr
  clear hw hr
  go_enter Tryz.func14, Tryz.ntmps14
  go_wp2_with fail
  go_loopw [4, 10] (fun q i wr => ∃ (k c' : Nat) (A' : Option Addr) (L : List T3), k ≤ n ∧ i = .int .i64 k ∧ q = .slice A' k c' ∧ Hid ((ws.take k).map wordI = L.map some) ∧ Hid (L.length = k) ∧ Hid (∀ x ∈ L, ok3 x) ∧ Below w.heap.size w wr ∧ Hid (wr.ownsRow w.heap.size 60 3 (.slice A' k c') k (L.flatMap c3))) (fun _ i _ => n - (intOf i).toNat)
  case atStart => exact ⟨0, 0, none, [], by omega, rfl, rfl, rfl, rfl, (fun x hx => by cases hx), Below.refl _ _, World.ownsRow_nil _ _ _ _⟩
  case round =>
    obtain ⟨k, c', A', L, hk, rfl, rfl, HM, HLL, HK, hb, HO⟩ := hrel
    have hsz := hb.size
    by_cases hlt : k < n
    · obtain ⟨b, off, x, rfl, hbl, hxx, q0⟩ := (HR.out.on hb).atS hlt
      have hxm := Lib.hid (List.mem_of_getElem? hxx.out)
      have hxs := hs x hxm.out
      have HW2 := Lib.hid (HW.out.on hb)
      have i1 : (k : Int) < (n : Int) := by omega
      have i2 : (0 : Int) ≤ (k : Int) := by omega
      by_cases h3 : (numsL x).length = 3
      · obtain ⟨a1, a2, a3, e3, e4⟩ := numsL_three h3
        have HE3 := Lib.hid e3
        have HE4 : Hid ((ws.take (k + 1)).map wordI = (L ++ [(a1, a2, a3)]).map some) := by
          show _ = _
          rw [take_succ_of hxx.out, List.map_append, List.map_append, HM.out]
          simp [e4]
        have HK2 : Hid (∀ x ∈ L ++ [(a1, a2, a3)], ok3 x) := by
          show ∀ x ∈ _, ok3 x
          intro y hy
          rcases List.mem_append.1 hy with h | h
          · exact HK.out y h
          · rw [List.mem_singleton] at h; subst h
            have h9 := numsL_I64 (s := x)
            rw [e3] at h9
            exact ⟨h9 a1 (by simp), h9 a2 (by simp), h9 a3 (by simp)⟩
        have HC := Lib.hid (numbersOf_any x wr hxs HW2.out)
        rw [h3] at HC
        clear e3 e4 h3 hxx
        go_wp2_with fail
        with_reducible refine HC.out.mono ?_
        rintro e w2 ⟨A2, c2', rfl, ho2, hb2⟩
        rw [HE3.out] at ho2
        obtain ⟨g2, rfl, hg0, hg1⟩ := own_at ho2 (by decide)
        have u0 : w2.cell? ⟨g2, 0, none⟩ = some (.int .i64 a1) := by have h9 := ho2.cellAt 0 (by decide); simpa [c1] using h9
        have u1 : w2.cell? ⟨g2, 1, none⟩ = some (.int .i64 a2) := by have h9 := ho2.cellAt 1 (by decide); simpa [c1] using h9
        have u2 : w2.cell? ⟨g2, 2, none⟩ = some (.int .i64 a3) := by have h9 := ho2.cellAt 2 (by decide); simpa [c1] using h9
        have HO2 := Lib.hid (own_below HO.out hb2)
        have HB2 := Lib.hid (below_app hb hb2 hsz)
        have hz2' := HB2.out.size
        have FA : Hid (∀ ad, A' = some ad → g2 ≠ ad.block) := fun ad h9 => by
          have h8 := (HO.out.lt ad.block (by rw [h9]; rfl)).2
          omega
        clear HO hb hb2 q0 HC ho2
        go_wp2_with fail
        go_region_held3 (fun w' => w'.cell? ⟨g2, 0, none⟩ = some (.int .i64 a1) ∧ w'.cell? ⟨g2, 1, none⟩ = some (.int .i64 a2) ∧ w'.cell? ⟨g2, 2, none⟩ = some (.int .i64 a3)) (first | exact ⟨u0, u1, u2⟩ | (go_split_ands; exact ⟨hst _ _ _ ‹_› (.inl FA.out), hst _ _ _ ‹_› (.inl FA.out), hst _ _ _ ‹_› (.inl FA.out)⟩) | go_keep) (first | ((refine step_keep _ c3_len one3 (by rfl) (.tmp 19) (.tmp 30) 38 (by rfl) w.heap.size 60 i0 _ Tryz.underlying38 hi hz0 hz1 hz2 rfl (by decide) (by decide) A' k c' _ (by rfl) (HO2.out.drew.alloc _) w2.heap.size 1 (a1, a2, a3) (by rfl) (news3 (Cell3.new _ _ _ _ _)) (by omega) (by simp; omega) ?_; intro A3 c3' w3 hw3 hb3 hst)))
        go_split_ands
        have hb9 : Below w.heap.size w w3 := (HB2.out.drew.alloc (by have := HB2.out.size; simpa using this) _).trans hb3
        have HB3 := Lib.hid hb9
        have HO3 := Lib.hid hw3
        clear hb9 hw3 hb3
        go_wp2
        exact ⟨⟨k + 1, c3', A3, L ++ [(a1, a2, a3)], by omega, by go_num, rfl, HE4.out, by show _ = _; rw [List.length_append, HLL.out]; rfl, HK2.out, HB3.out, HO3.out⟩, by simp [intOf]; omega⟩
      · have HNO := Lib.hid (wordI_none h3)
        obtain ⟨m, hm⟩ : ∃ m, (numsL x).length = m := ⟨_, rfl⟩
        have HC := Lib.hid (numbersOf_any x wr hxs HW2.out)
        rw [hm] at HC h3
        have k3 : ¬ (m : Int) = 3 := by omega
        clear hm hxx
        go_wp2_with fail
        with_reducible refine HC.out.mono ?_
        rintro e w2 ⟨A2, c2', rfl, ho2, hb2⟩
        have HB2 := Lib.hid (below_app hb hb2 hsz)
        clear HO hb hb2 q0 HC ho2
        go_wp2
        go_ret2
        exact ⟨.inr ⟨⟨x, hxm.out, HNO.out⟩, rfl⟩, HB2.out⟩
    · have hkn : k = n := by omega
      subst hkn
      rw [List.take_of_length_le (by rw [HL.out]; exact Nat.le_refl _)] at HM
      have HB := Lib.hid hb
      clear hb
      go_wp2
      go_ret2
      exact ⟨.inl ⟨L, A', c', rfl, HM.out, HLL.out, HK.out, HO.out⟩, HB.out⟩
theorem rd_nil {α : Type} {f : α → List Value} {s : Nat} (w : World) (B : Nat) : RdL f s w B none 0 0 [] := ⟨rfl, by simp, Nat.le_refl _, by unfold maxLen; omega, fun h => absurd h (Nat.lt_irrefl _)⟩
theorem wd_cells {w : World} {B n c : Nat} {A : Option Addr} {ws : List ByteArray} (h : RdL cs1 1 w B A n c ws) (h0 : 0 < n) : ∃ b off, A = some ⟨b, off, none⟩ ∧ b < B ∧ ∀ j x, ws[j]? = some x → w.cell? ⟨b, off + j, none⟩ = some (.string x) := by
  obtain ⟨hl, _, _, _, h4⟩ := h
  obtain ⟨b, off, rfl, hb, hc⟩ := h4 h0
  refine ⟨b, off, rfl, hb, fun j x hx => hc j _ ?_⟩
  rw [flat_cs1, List.getElem?_map, hx]; rfl
theorem byt_yes {a b : ByteArray} (h : a = b) : (a.toList == b.toList) = true := by rw [h]; simp
theorem lst_yes {a : ByteArray} {l : List UInt8} (h : a = (⟨l.toArray⟩ : ByteArray)) : a.toList = l := by rw [h, byt_list]
theorem lst_no {a : ByteArray} {l : List UInt8} (h : ¬ a = (⟨l.toArray⟩ : ByteArray)) : ¬ a.toList = l := fun e => h (by rw [← toB_toList a, ← byt_list, e])
end Go.Proofs.YtnjifhlabbejoaaGreatDoor
