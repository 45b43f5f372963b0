/- BoundOrder: the reference's, by insertion into two rows. -/
import Derived.Test.YtkldejbhhbgefaaB4
import Derived.WalkLawsBesides
namespace Go.Proofs.Ytkldejbhhbgefaa
open Go.ChangeShapes Go.WideShapes Go.ChangeAt Go.RowKit
set_option linter.unusedVariables false
set_option linter.unusedSimpArgs false
section
variable {P : Program} (w : World) {ops : Array Oper} {rest : List Oper} {o : Oper} {a : Act} {Q : Exit → Act → World → Prop}
/-- append of many elements (none, too) onto a row of the call's own. -/
theorem app_moreB {α : Type} {f : α → List Value} {S Y : Nat} (hf : ∀ x, (f x).length = S) (hone : ∀ x, ∀ u ∈ f x, u.oneCell' = true) (hg : o.guard = none) (s x : Operand) (t : TypeId)
    (ho : o.op = .call { callee := .builtin .append, args := #[s, x], argTypes := #[t, t] }) (base : Nat) (e : TypeId) (i : TypeInfo) (z : Value)
    (h1 : P.underlying t = some (.slice e)) (hi : P.info? e = some i) (hz : i.zero = some z) (hs : i.size = S) (hy : i.bytes = Y) (hzs : z.cells.size = S) (hS : 0 < S) (hY : Y ≤ 4096)
    (A : Option Addr) (n c : Nat) (l : List α) (hv : a.eval s = .slice A n c) (hown : w.ownsRow base e S (.slice A n c) n (l.flatMap f))
    (b off m c' : Nat) (xs : List α) (hx : a.eval x = .slice (some ⟨b, off, none⟩) m c') (hl : xs.length = m) (hcell : ∀ j u, (xs.flatMap f)[j]? = some u → w.cell? ⟨b, off + j, none⟩ = some u) (N : Nat) (hN : N = n + m) (hn : n + m ≤ 1048576) (hbase : base ≤ w.heap.size)
    (K : ∀ A' c' w', w'.ownsRow base e S (.slice A' N c') N ((l ++ xs).flatMap f) → Below base w w' → wpList P ops Q rest (a.put o.dst (.slice A' N c')) w') :
    wpList P ops Q (o :: rest) a w := by
  subst hN
  have hb : (n + m) * Y ≤ 140737488355328 := Nat.le_trans (Nat.mul_le_mul hn hY) (by decide)
  refine wpList_append_own w hg s x t ho base e i z S Y h1 hi hz hs hy hzs hS (.slice A n c) n (l.flatMap f) hv hown ⟨b, off, none⟩ m c' (xs.flatMap f) hx (by rw [flat_len hf, hl]) ?_ ?_ (by unfold maxLen; omega) hb hbase ?_
  · intro j u hu
    have h := hcell j u hu
    unfold Addr.add
    split
    · rename_i h0; subst h0; exact h
    · exact h
  · intro u hu
    obtain ⟨y, _, hy2⟩ := List.mem_flatMap.1 hu
    exact hone y u hy2
  · intro v' w' hown' hgrow _
    obtain ⟨A', c'', rfl, _, _⟩ := own_form hown'
    refine K A' c'' w' (by rw [List.flatMap_append]; exact hown') ?_
    exact (Below.refl _ _).grown hgrow hbase (fun k hk => (hown.lt k hk).1)
end
theorem cellsB {w w' : World} {b0 o0 n c K : Nat} {ls : List Int} (h : RdL c1 1 w w.heap.size (some ⟨b0, o0, none⟩) n c ls) (hb : Below w.heap.size w w') (hK : K ≤ n) :
    ∀ j u, ((ls.take K).flatMap c1)[j]? = some u → w'.cell? ⟨b0, o0 + j, none⟩ = some u := by
  intro j u hu
  have h1 := RdL.sub c1_len (h.below hb) (a := 0) (k := K) (by omega)
  obtain ⟨_, _, _, _, h4⟩ := h1
  rcases Nat.eq_zero_or_pos K with h0 | h0
  · subst h0; simp at hu
  · obtain ⟨b, off, e, _, hc⟩ := h4 h0
    cases e
    have h2 := hc j u (by simpa using hu)
    simpa using h2
theorem cellsB2 {w w' : World} {b0 n c K : Nat} {ls : List Int} (h : RdL c1 1 w w.heap.size (some ⟨b0, 0, none⟩) n c ls) (hb : Below w.heap.size w w') (hK : K ≤ n) :
    ∀ j u, ((ls.drop K).flatMap c1)[j]? = some u → w'.cell? ⟨b0, K + j, none⟩ = some u := by
  intro j u hu
  have hl := h.len
  have h1 := RdL.sub c1_len (h.below hb) (a := K) (k := n - K) (by omega)
  obtain ⟨_, _, _, _, h4⟩ := h1
  rcases Nat.eq_zero_or_pos (n - K) with h0 | h0
  · rw [List.drop_of_length_le (by omega)] at hu; simp at hu
  · obtain ⟨b, off, e, _, hc⟩ := h4 h0
    cases e
    have h2 := hc j u (by rw [List.take_of_length_le (by rw [List.length_drop]; omega)]; exact hu)
    simpa using h2
theorem RdL.subB {w : World} {B b0 n c K : Nat} {ls : List Int} (h : RdL c1 1 w B (some ⟨b0, 0, none⟩) n c ls) (hK : K ≤ n) : RdL c1 1 w B (some ⟨b0, 0, none⟩) K c (ls.take K) := by
  have h1 := RdL.sub c1_len h (a := 0) (k := K) (by omega)
  simpa using h1
theorem lit_noneB (w : World) (base : Nat) (hb : base ≤ w.heap.size) : (w.alloc (.cells #[] 2)).ownsRow base 2 1 (.slice (some ⟨w.heap.size, 0, none⟩) 0 0) 0 (([] : List Int).flatMap c1) := by
  simpa using World.ownsRow_lit (base := base) (e := 2) (size := 1) w #[] 0 hb (by simp [maxLen]) rfl
theorem own_eqB {w : World} {b t s n : Nat} {v : Value} {xs ys : List Value} (h : w.ownsRow b t s v n xs) (e : xs = ys) : w.ownsRow b t s v n ys := e ▸ h
theorem srtM_snoc (l : List T2) (v : T2) : srtM (l ++ [v]) = insR leK (srtM l) v := by unfold srtM; rw [List.foldl_append]; rfl
theorem map_ins {α : Type} {S S' : List α} {v : α} {j : Nat} (f : α → Int) (h : S' = S.take j ++ v :: S.drop j) : S'.map f = (S.map f).take j ++ [f v] ++ (S.map f).drop j := by rw [h, List.map_append, List.map_cons, List.map_take, List.map_drop]; simp
theorem own_atI {w : World} {base e g n c j : Nat} {zs : List Int} {v : Int} (h : w.ownsRow base e 1 (.slice (some ⟨g, 0, none⟩) n c) n (zs.flatMap c1)) (hv : zs[j]? = some v) : w.cell? ⟨g, j, none⟩ = some (.int .i64 v) ∧ g < w.heap.size := by
  have hi := (List.getElem?_eq_some_iff.1 hv).1
  have hn : zs.length * 1 = n * 1 := by have := h.1; rw [flat_len c1_len] at this; exact this
  refine ⟨?_, (h.lt g rfl).2⟩
  have h9 := h.cellAt (j * 1 + 0) (by omega)
  rw [flat_get c1_len zs j 0 v hv (by omega)] at h9
  simpa [c1] using h9
theorem l00OwnB_any (b off n c : Nat) (xs : List Int) (w : World) (hr : RdL c1 1 w w.heap.size (some ⟨b, off, none⟩) n c xs) (hn : n ≤ 100000) :
    Calls Try.prog 48 #[.slice (some ⟨b, off, none⟩) n c] w fun e w' => ∃ A' c', e = .returned (.slice A' n c') ∧ w'.ownsRow w.heap.size 2 1 (.slice A' n c') n (xs.flatMap c1) ∧ Below w.heap.size w w' := by
  obtain ⟨i0, hi, hz0, hz1, hz2⟩ := info_parts Try.infoInt64
  have HL := Lib.hid hr.len
  have HR := Lib.hid hr
  have HT := Lib.hid (show xs.take n = xs from List.take_of_length_le (by rw [hr.len]; exact Nat.le_refl _))
  clear hr
  go_enter Try.func48, Try.ntmps48
  go_wp2_with (at_builtin; with_reducible refine app_moreB _ c1_len one1 rfl (.tmp 3) (.tmp 4) 26 rfl w.heap.size 2 i0 _ Try.underlying26 hi hz0 hz1 hz2 rfl (by decide) (by decide) (some ⟨w.heap.size, 0, none⟩) 0 0 [] rfl (lit_noneB w _ (Nat.le_refl _)) b off n c xs rfl HL.out ?_ n (by omega) ?_ ?_ ?_)
  all_goals first | omega | (intro j u hu; exact cellsB HR.out ((Below.refl _ _).alloc (Nat.le_refl _) _) (Nat.le_refl n) j u (by rw [HT.out]; exact hu)) | (intro A1 c1' w1 (ho1 : (World.ownsRow _ _ _ _ _ _ _)) hb1) | (simp; omega) | (simp; done)
  have O1 := Lib.hid ho1
  have B1 := ((Below.refl w.heap.size w).alloc (Nat.le_refl _) (.cells #[] 2)).trans hb1
  clear ho1 hb1
  go_wp2
  go_ret
  exact ⟨A1, c1', rfl, own_eqB O1.out (by simp), B1⟩
set_option maxRecDepth 100000 in
set_option maxHeartbeats 8000000 in
theorem sBoundOrder_any (A B : Option Addr) (n ca m cb : Nat) (xs : List T3) (ls : List (List T3)) (band : Int) (w : World) (hr : RdL c3 3 w w.heap.size A n ca xs) (hs : NL w w.heap.size B m cb ls) (hn : n ≤ 1048576) (hm : totL ls ≤ 1048576) :
    Calls Try.prog 18 #[.slice A n ca, .slice B m cb, .int .i64 band] w fun e w' => ∃ A' n' c', e = .returned (.tuple #[.slice A' n' c', .int .i64 (srE xs ls band)]) ∧ w'.ownsRow w.heap.size 2 1 (.slice A' n' c') n' ((boL xs ls band).flatMap c1) ∧
      (boL xs ls band).length = n' ∧ n' ≤ 1048576 ∧ Below w.heap.size w w' := by
  obtain ⟨i0, hi, hz0, hz1, hz2⟩ := info_parts Try.infoInt64
  have hl := Lib.hid hs.len
  have hlx := Lib.hid hr.len
  go_enter Try.func18, Try.ntmps18
  go_wp2_with fail
  with_reducible refine (l10Code_any _ _ _ _ _ _ xs ls band _ hr hs hn hm).mono ?_
  rintro e w1 ⟨rfl, hbw1⟩
  replace hr := hr.on hbw1
  replace hs := hs.on hbw1
  by_cases hc : srE xs ls band = 0
  · obtain ⟨V1, V2, V3, V4, V5⟩ := srE_inv hc
    obtain ⟨bd, rfl⟩ := Int.eq_ofNat_of_zero_le V4
    rw [hl.out] at V2
    have HR := Lib.hid hr
    have HS := Lib.hid hs
    have V1 := Lib.hid V1
    have V3 := Lib.hid V3
    have HC := Lib.hid hc
    rw [hc]
    clear hr hs hc
    go_wp2_with fail
    go_loopw [9, 10, 11] (fun r1 r2 i wr => ∃ (k q g1 d1' g2 d2' : Nat), i = .int .i64 k ∧ k ≤ m ∧ r1 = .slice (some ⟨g1, 0, none⟩) q d1' ∧ r2 = .slice (some ⟨g2, 0, none⟩) q d2' ∧ Below w1.heap.size w1 wr ∧ Hid (wr.ownsRow w1.heap.size 2 1 (.slice (some ⟨g1, 0, none⟩) q d1') q (((srtM (boS xs ls bd k)).map (·.1)).flatMap c1)) ∧ Hid (wr.ownsRow w1.heap.size 2 1 (.slice (some ⟨g2, 0, none⟩) q d2') q (((srtM (boS xs ls bd k)).map (·.2)).flatMap c1)) ∧ Hid ((srtM (boS xs ls bd k)).length = q) ∧ q ≤ k) (fun _ _ i _ => m - (intOf i).toNat)
    case atStart =>
      refine ⟨0, 0, w1.heap.size, 0, w1.heap.size + 1, 0, rfl, by omega, rfl, rfl, (by repeat (first | exact Below.refl _ _ | assumption | refine Below.drew ?_ | refine below_drewN ?_ _ | refine Below.alloc ?_ (by first | omega | (simp <;> omega)) _ | refine Below.setCell ?_ (by first | omega | (simp <;> omega)) _)), ?_, ?_, rfl, by omega⟩
      · exact own_eqB ((lit_noneB w1 _ (Nat.le_refl _)).alloc _) rfl
      · have h9 := lit_noneB (w1.alloc (.cells #[] 2)) w1.heap.size (by simp)
        have h8 : ((w1.alloc (.cells #[] 2)).alloc (.cells #[] 2)).ownsRow w1.heap.size 2 1 (.slice (some ⟨w1.heap.size + 1, 0, none⟩) 0 0) 0 [] := by simpa using h9
        exact own_eqB h8 rfl
    case round =>
      obtain ⟨k, q, g1, d1', g2, d2', rfl, hk, rfl, rfl, hb, HO1, HO2, hsl, hqk⟩ := hrel
      have hsz := hb.size
      by_cases hlt : k < m
      · obtain ⟨b, off, B', n', cb', x, rfl, hbL1, hx, q01, hx3⟩ := HS.out.at_ hlt
        have q0 : wr.cell? ⟨b, off + k, none⟩ = some (.slice B' n' cb') := (hb.cell (p := ⟨b, off + k, none⟩) hbL1).trans q01
        have hbL : b < wr.heap.size := Nat.lt_of_lt_of_le hbL1 hsz
        have i1 : (k : Int) < (m : Int) := by omega
        have i2 : (0 : Int) ≤ (k : Int) := by omega
        have hxn := tot_in hm hx.out hx3.len
        have VX := Lib.hid (V3.out k x hx.out)
        have HX := Lib.hid hx3
        have hxl := Lib.hid hx3.len
        clear hx3 q01
        cases hbd : bandOk n n' (bd : Int) with
        | false =>
          have HT := Lib.hid (boS_off hlx.out hx.out hxl.out hbd)
          have HBd := Lib.hid hbd
          clear hbd
          go_wp2_with fail
          with_reducible refine (l10In_any _ _ _ _ _ _ _ _ hn hxn).mono ?_
          rintro e w2 ⟨rfl, hbw2⟩
          rw [HBd.out]
          have HO1' := Lib.hid (own_below HO1.out hbw2)
          have HO2' := Lib.hid (own_below HO2.out hbw2)
          have hb2 := Lib.hid (below_app hb hbw2 hsz)
          clear hbw2 hb HO1 HO2
          go_wp2
          exact ⟨⟨k + 1, q, g1, d1', g2, d2', by go_num, by omega, rfl, rfl, hb2.out, by rw [HT.out]; exact HO1'.out, by rw [HT.out]; exact HO2'.out, by rw [HT.out]; exact hsl.out, by omega⟩, by simp [intOf]; omega⟩
        | true =>
          have HT := Lib.hid (boS_in hlx.out hx.out hxl.out hbd)
          have HBd := Lib.hid hbd
          clear hbd
          go_wp2_with fail
          with_reducible refine (l10In_any _ _ _ _ _ _ _ _ hn hxn).mono ?_
          rintro e w2 ⟨rfl, hbw2⟩
          rw [HBd.out]
          have HO1' := Lib.hid (own_below HO1.out hbw2)
          have HO2' := Lib.hid (own_below HO2.out hbw2)
          have hb2 := below_app hb hbw2 hsz
          replace q0 := (hbw2.cell (p := ⟨b, off + k, none⟩) hbL).trans q0
          replace hbL := Nat.lt_of_lt_of_le hbL hbw2.size
          have hsz2 := hb2.size
          have HX2 := Lib.hid (HX.out.on hb2)
          have HA2 := Lib.hid (HR.out.on hb2)
          clear hbw2 hb HO1 HO2
          go_wp2_with fail
          with_reducible refine (l10Bound_any _ _ _ _ _ _ xs x bd _ HA2.out HX2.out V1.out VX.out HBd.out).mono ?_
          rintro e wo ⟨rfl, hbW⟩
          obtain ⟨v, hv⟩ : ∃ v, lbndV xs x bd = v := ⟨_, rfl⟩
          rw [hv] at HT ⊢
          have HO1 := Lib.hid (own_below HO1'.out hbW)
          have HO2 := Lib.hid (own_below HO2'.out hbW)
          have hbt := below_app hb2 hbW hsz2
          have hwt := hbt.size
          obtain ⟨P1, hP1⟩ : ∃ P, (srtM (boS xs ls bd k)).map (·.1) = P := ⟨_, rfl⟩
          obtain ⟨P2, hP2⟩ : ∃ P, (srtM (boS xs ls bd k)).map (·.2) = P := ⟨_, rfl⟩
          rw [hP1] at HO1
          rw [hP2] at HO2
          have HP1 := Lib.hid hP1
          have HP2 := Lib.hid hP2
          have hp1 : Hid (P1.length = q) := by show _ = _; rw [← hP1, List.length_map]; exact hsl.out
          have hp2 : Hid (P2.length = q) := by show _ = _; rw [← hP2, List.length_map]; exact hsl.out
          have HQ9 : Hid ((srtM (boS xs ls bd (k + 1))).length = q + 1) := by show _ = _; rw [HT.out, srtM_snoc, insR_len, hsl.out]
          have RJ1 := Lib.hid (RdL.of_own hp1.out HO1.out)
          have RJ2 := Lib.hid (RdL.of_own hp2.out HO2.out)
          have hc1 := RJ1.out.cap
          have hc1m := RJ1.out.capm
          have hc2 := RJ2.out.cap
          have hc2m := RJ2.out.capm
          have hgw2 : g2 < wo.heap.size := (HO2.out.lt g2 rfl).2
          clear q0 hbL hb2 hbW HO1' HO2' HX2 HA2 hP1 hP2
          go_wp2_with fail
          go_loopw [13] (fun t wi => ∃ j : Nat, j ≤ q ∧ t = .int .i64 j ∧ wi = wo ∧ Hid (slotR leK (srtM (boS xs ls bd k)) ((k : Int), v) q = slotR leK (srtM (boS xs ls bd k)) ((k : Int), v) j)) (fun t _ => (intOf t).toNat)
          case atStart => exact ⟨q, Nat.le_refl _, rfl, rfl, rfl⟩
          case round =>
            obtain ⟨j, hj, rfl, rfl, hsj⟩ := hrel
            obtain ⟨wo, rfl⟩ : ∃ W, W = wr := ⟨_, rfl⟩
            match j, hj, hsj with
            | 0, hj, hsj =>
              have HP := Lib.hid (insK_of (k := 0) hsl.out (hsj.out.trans rfl))
              clear hsj
              have HPX : Hid ((srtM (boS xs ls bd (k + 1))).map (·.1) = P1.take 0 ++ [(k : Int)] ++ P1.drop 0 ∧ (srtM (boS xs ls bd (k + 1))).map (·.2) = P2.take 0 ++ [v] ++ P2.drop 0) := by
                have h9 := HT.out
                rw [h9, srtM_snoc]
                exact ⟨by rw [map_ins (·.1) HP.out, HP1.out], by rw [map_ins (·.2) HP.out, HP2.out]⟩
              have s1 : (0 : Int) ≤ (d1' : Int) := by omega
              have s2 : 0 ≤ d1' := by omega
              have s3 : (0 : Int) ≤ (d2' : Int) := by omega
              have s4 : 0 ≤ d2' := by omega
              go_wp2_with fail
              with_reducible refine (l00OwnB_any g1 0 0 d1' (P1.take 0) _ (RJ1.out.subB (by omega)) (by omega)).mono ?_
              rintro e w14 ⟨A11, d11, rfl, ho11, hb14⟩
              have O11 := Lib.hid ho11
              clear ho11
              go_wp2_with (at_builtin; with_reducible refine app_one _ c1_len one1 rfl (.tmp 64) (.tmp 66) 26 rfl wo.heap.size 2 i0 _ Try.underlying26 hi hz0 hz1 hz2 rfl (by decide) (by decide) A11 0 d11 _ rfl (O11.out.alloc _) w14.heap.size 1 (k : Int) rfl ?_ (by omega) ?_ ?_)
              rotate_left 2
              intro A15 c15 w15 hw15 hbw15
              rotate_left 1
              · exact news1 (Blk.cel (Blk.new _ _ _)).cell
              · have h9 := hb14.size; simp; omega
              have hb15 : Below wo.heap.size wo w15 := (hb14.alloc hb14.size _).trans hbw15
              have O12 : Hid (w15.ownsRow wo.heap.size 2 1 (.slice A15 (0 + 1) c15) (0 + 1) ((P1.take 0 ++ [(k : Int)]).flatMap c1)) := own_eqB hw15 (by simp)
              have R15 := Lib.hid (RJ1.out.on hb15)
              have hdl1 : (P1.drop 0).length = q - 0 := by rw [List.length_drop, hp1.out]
              have zz1 := hb15.size
              clear hw15 hbw15 hb14
              go_wp2_with (at_builtin; with_reducible refine app_moreB _ c1_len one1 rfl (.tmp 68) (.tmp 71) 26 rfl wo.heap.size 2 i0 _ Try.underlying26 hi hz0 hz1 hz2 rfl (by decide) (by decide) A15 (0 + 1) c15 (P1.take 0 ++ [(k : Int)]) rfl O12.out g1 0 q _ (P1.drop 0) rfl ?_ ?_ (q + 1) (by omega) ?_ ?_ ?_)
              all_goals first | omega | (intro A16 c16 w16 (ho16 : (World.ownsRow _ _ _ _ _ _ _)) hbw16) | (rw [hdl1]; done) | (rw [hdl1]; omega) | (intro j9 u9 hu9; have h8 := cellsB2 R15.out (Below.refl _ _) (show 0 ≤ q by omega) j9 u9 hu9; simpa using h8) | (simp; omega) | (simp; done)
              obtain ⟨g16, rfl, hg160, hg161⟩ := own_at ho16 (by omega)
              have hb16 : Below wo.heap.size wo w16 := hb15.trans hbw16
              have O13 : Hid (w16.ownsRow wo.heap.size 2 1 (.slice (some ⟨g16, 0, none⟩) (q + 1) c16) (q + 1) ((P1.take 0 ++ [(k : Int)] ++ P1.drop 0).flatMap c1)) := own_eqB ho16 (by simp)
              clear ho16 hbw16 hg160 hg161 hb15
              have zA := hb16.size
              have RB := Lib.hid (RJ2.out.on hb16)
              have HB1 := Lib.hid (hbt.trans (hb16.mono hwt))
              have zB := HB1.out.size
              go_wp2_with fail
              with_reducible refine (l00OwnB_any g2 0 0 d2' (P2.take 0) _ (RB.out.subB (by omega)) (by omega)).mono ?_
              rintro e w24 ⟨A21, d21, rfl, ho21, hb24⟩
              have O21 := Lib.hid ho21
              clear ho21
              go_wp2_with (at_builtin; with_reducible refine app_one _ c1_len one1 rfl (.tmp 76) (.tmp 78) 26 rfl w16.heap.size 2 i0 _ Try.underlying26 hi hz0 hz1 hz2 rfl (by decide) (by decide) A21 0 d21 _ rfl (O21.out.alloc _) w24.heap.size 1 v rfl ?_ (by omega) ?_ ?_)
              rotate_left 2
              intro A25 c25 w25 hw25 hbw25
              rotate_left 1
              · exact news1 (Blk.cel (Blk.new _ _ _)).cell
              · have h9 := hb24.size; simp; omega
              have hb25 : Below w16.heap.size w16 w25 := (hb24.alloc hb24.size _).trans hbw25
              have O22 : Hid (w25.ownsRow w16.heap.size 2 1 (.slice A25 (0 + 1) c25) (0 + 1) ((P2.take 0 ++ [v]).flatMap c1)) := own_eqB hw25 (by simp)
              have R25 := Lib.hid (RB.out.on hb25)
              have hdl2 : (P2.drop 0).length = q - 0 := by rw [List.length_drop, hp2.out]
              have zz2 := hb25.size
              clear hw25 hbw25 hb24
              go_wp2_with (at_builtin; with_reducible refine app_moreB _ c1_len one1 rfl (.tmp 80) (.tmp 83) 26 rfl w16.heap.size 2 i0 _ Try.underlying26 hi hz0 hz1 hz2 rfl (by decide) (by decide) A25 (0 + 1) c25 (P2.take 0 ++ [v]) rfl O22.out g2 0 q _ (P2.drop 0) rfl ?_ ?_ (q + 1) (by omega) ?_ ?_ ?_)
              all_goals first | omega | (intro A26 c26 w26 (ho26 : (World.ownsRow _ _ _ _ _ _ _)) hbw26) | (rw [hdl2]; done) | (rw [hdl2]; omega) | (intro j9 u9 hu9; have h8 := cellsB2 R25.out (Below.refl _ _) (show 0 ≤ q by omega) j9 u9 hu9; simpa using h8) | (simp; omega) | (simp; done)
              obtain ⟨g26, rfl, hg260, hg261⟩ := own_at ho26 (by omega)
              have hb26 : Below w16.heap.size w16 w26 := hb25.trans hbw26
              have O23 : Hid (w26.ownsRow w16.heap.size 2 1 (.slice (some ⟨g26, 0, none⟩) (q + 1) c26) (q + 1) ((P2.take 0 ++ [v] ++ P2.drop 0).flatMap c1)) := own_eqB ho26 (by simp)
              clear ho26 hbw26 hg260 hg261 hb25
              have HPF := HPX.out
              go_wp2
              exact ⟨⟨k + 1, q + 1, g16, c16, g26, c26, by go_num, by omega, rfl, rfl, HB1.out.trans (hb26.mono zB), own_eqB (own_mono (own_below O13.out hb26) hwt) (by rw [HPF.1]), own_eqB (own_mono O23.out zB) (by rw [HPF.2]), HQ9.out, by omega⟩, by simp [intOf]; omega⟩
            | j + 1, hj, hsj =>
              obtain ⟨⟨y0, y1⟩, hy⟩ : ∃ y, (srtM (boS xs ls bd k))[j]? = some y := ⟨_, List.getElem?_eq_getElem (by rw [hsl.out]; omega)⟩
              have hy2 : P2[j]? = some y1 := by rw [← HP2.out, List.getElem?_map, hy]; rfl
              obtain ⟨q1, _⟩ := own_atI HO2.out hy2
              have j0 : IntKind.i64.wrap (((j + 1 : Nat) : Int) - 1) = (j : Int) := by rw [IntWalk.i64_in _ (by omega)]; omega
              have j1 : (0 : Int) < ((j + 1 : Nat) : Int) := by omega
              have j2 : (j : Int) < (q : Int) := by omega
              have j3 : (0 : Int) ≤ (j : Int) := by omega
              by_cases hcv : v < y1
              · have HP := Lib.hid (slotK_no (v := ((k : Int), v)) hy (show v < y1 from hcv))
                clear hy hy2
                go_wp2_with fail
                exact ⟨⟨j, by omega, rfl, by trivial, hsj.out.trans HP.out⟩, by simp [intOf]⟩
              · have HP := Lib.hid (insK_of hsl.out (hsj.out.trans (slotK_yes (v := ((k : Int), v)) hy (show y1 ≤ v by omega))))
                clear hy hy2
                go_wp2_with fail
                clear j0 j1 hsj q1
                generalize hjm : j + 1 = mm at *
                have hjm2 : mm ≤ q := by omega
                have hjm3 : (j : Int) + 1 = (mm : Int) := by omega
                have s0 : (0 : Int) ≤ (mm : Int) := by omega
                try rw [hjm3]
                have HPX : Hid ((srtM (boS xs ls bd (k + 1))).map (·.1) = P1.take mm ++ [(k : Int)] ++ P1.drop mm ∧ (srtM (boS xs ls bd (k + 1))).map (·.2) = P2.take mm ++ [v] ++ P2.drop mm) := by
                  have h9 := HT.out
                  rw [h9, srtM_snoc]
                  exact ⟨by rw [map_ins (·.1) HP.out, HP1.out], by rw [map_ins (·.2) HP.out, HP2.out]⟩
                have s1 : (mm : Int) ≤ (d1' : Int) := by omega
                have s2 : mm ≤ d1' := by omega
                have s3 : (mm : Int) ≤ (d2' : Int) := by omega
                have s4 : mm ≤ d2' := by omega
                by_cases hcc1 : d1' = mm
                · have hkm1 : q = mm := by omega
                  subst hcc1
                  subst hkm1
                  with_reducible refine (l00OwnB_any g1 0 q q (P1.take q) _ (RJ1.out.subB (by omega)) (by omega)).mono ?_
                  rintro e w14 ⟨A11, d11, rfl, ho11, hb14⟩
                  have O11 := Lib.hid ho11
                  clear ho11
                  go_wp2_with (at_builtin; with_reducible refine app_one _ c1_len one1 rfl (.tmp 64) (.tmp 66) 26 rfl wo.heap.size 2 i0 _ Try.underlying26 hi hz0 hz1 hz2 rfl (by decide) (by decide) A11 q d11 _ rfl (O11.out.alloc _) w14.heap.size 1 (k : Int) rfl ?_ (by omega) ?_ ?_)
                  rotate_left 2
                  intro A15 c15 w15 hw15 hbw15
                  rotate_left 1
                  · exact news1 (Blk.cel (Blk.new _ _ _)).cell
                  · have h9 := hb14.size; simp; omega
                  have hb15 : Below wo.heap.size wo w15 := (hb14.alloc hb14.size _).trans hbw15
                  have O12 : Hid (w15.ownsRow wo.heap.size 2 1 (.slice A15 (q + 1) c15) (q + 1) ((P1.take q ++ [(k : Int)]).flatMap c1)) := own_eqB hw15 (by simp)
                  have R15 := Lib.hid (RJ1.out.on hb15)
                  have hdl1 : (P1.drop q).length = q - q := by rw [List.length_drop, hp1.out]
                  have zz1 := hb15.size
                  clear hw15 hbw15 hb14
                  go_wp2_with (at_builtin; with_reducible refine app_moreB _ c1_len one1 rfl (.tmp 68) (.tmp 71) 26 rfl wo.heap.size 2 i0 _ Try.underlying26 hi hz0 hz1 hz2 rfl (by decide) (by decide) A15 (q + 1) c15 (P1.take q ++ [(k : Int)]) rfl O12.out g1 0 0 _ (P1.drop q) rfl ?_ ?_ (q + 1) (by omega) ?_ ?_ ?_)
                  all_goals first | omega | (intro A16 c16 w16 (ho16 : (World.ownsRow _ _ _ _ _ _ _)) hbw16) | (rw [hdl1]; done) | (rw [hdl1]; omega) | (intro j9 u9 hu9; rw [List.drop_of_length_le (by rw [hp1.out]; omega)] at hu9; simp at hu9) | (simp; omega) | (simp; done)
                  obtain ⟨g16, rfl, hg160, hg161⟩ := own_at ho16 (by omega)
                  have hb16 : Below wo.heap.size wo w16 := hb15.trans hbw16
                  have O13 : Hid (w16.ownsRow wo.heap.size 2 1 (.slice (some ⟨g16, 0, none⟩) (q + 1) c16) (q + 1) ((P1.take q ++ [(k : Int)] ++ P1.drop q).flatMap c1)) := own_eqB ho16 (by simp)
                  clear ho16 hbw16 hg160 hg161 hb15
                  have zA := hb16.size
                  have RB := Lib.hid (RJ2.out.on hb16)
                  have HB1 := Lib.hid (hbt.trans (hb16.mono hwt))
                  have zB := HB1.out.size
                  by_cases hcc2 : d2' = q
                  · have hkm2 : q = q := by omega
                    replace hcc2 := hcc2.symm
                    subst hcc2
                    go_wp2_with fail
                    with_reducible refine (l00OwnB_any g2 0 q q (P2.take q) _ (RB.out.subB (by omega)) (by omega)).mono ?_
                    rintro e w24 ⟨A21, d21, rfl, ho21, hb24⟩
                    have O21 := Lib.hid ho21
                    clear ho21
                    go_wp2_with (at_builtin; with_reducible refine app_one _ c1_len one1 rfl (.tmp 76) (.tmp 78) 26 rfl w16.heap.size 2 i0 _ Try.underlying26 hi hz0 hz1 hz2 rfl (by decide) (by decide) A21 q d21 _ rfl (O21.out.alloc _) w24.heap.size 1 v rfl ?_ (by omega) ?_ ?_)
                    rotate_left 2
                    intro A25 c25 w25 hw25 hbw25
                    rotate_left 1
                    · exact news1 (Blk.cel (Blk.new _ _ _)).cell
                    · have h9 := hb24.size; simp; omega
                    have hb25 : Below w16.heap.size w16 w25 := (hb24.alloc hb24.size _).trans hbw25
                    have O22 : Hid (w25.ownsRow w16.heap.size 2 1 (.slice A25 (q + 1) c25) (q + 1) ((P2.take q ++ [v]).flatMap c1)) := own_eqB hw25 (by simp)
                    have R25 := Lib.hid (RB.out.on hb25)
                    have hdl2 : (P2.drop q).length = q - q := by rw [List.length_drop, hp2.out]
                    have zz2 := hb25.size
                    clear hw25 hbw25 hb24
                    go_wp2_with (at_builtin; with_reducible refine app_moreB _ c1_len one1 rfl (.tmp 80) (.tmp 83) 26 rfl w16.heap.size 2 i0 _ Try.underlying26 hi hz0 hz1 hz2 rfl (by decide) (by decide) A25 (q + 1) c25 (P2.take q ++ [v]) rfl O22.out g2 0 0 _ (P2.drop q) rfl ?_ ?_ (q + 1) (by omega) ?_ ?_ ?_)
                    all_goals first | omega | (intro A26 c26 w26 (ho26 : (World.ownsRow _ _ _ _ _ _ _)) hbw26) | (rw [hdl2]; done) | (rw [hdl2]; omega) | (intro j9 u9 hu9; rw [List.drop_of_length_le (by rw [hp2.out]; omega)] at hu9; simp at hu9) | (simp; omega) | (simp; done)
                    obtain ⟨g26, rfl, hg260, hg261⟩ := own_at ho26 (by omega)
                    have hb26 : Below w16.heap.size w16 w26 := hb25.trans hbw26
                    have O23 : Hid (w26.ownsRow w16.heap.size 2 1 (.slice (some ⟨g26, 0, none⟩) (q + 1) c26) (q + 1) ((P2.take q ++ [v] ++ P2.drop q).flatMap c1)) := own_eqB ho26 (by simp)
                    clear ho26 hbw26 hg260 hg261 hb25
                    have HPF := HPX.out
                    go_wp2
                    exact ⟨⟨k + 1, q + 1, g16, c16, g26, c26, by go_num, by omega, rfl, rfl, HB1.out.trans (hb26.mono zB), own_eqB (own_mono (own_below O13.out hb26) hwt) (by rw [HPF.1]), own_eqB (own_mono O23.out zB) (by rw [HPF.2]), HQ9.out, by omega⟩, by simp [intOf]; omega⟩
                  · have hcc29 := hcc2
                    go_wp2_with fail
                    with_reducible refine (l00OwnB_any g2 0 q d2' (P2.take q) _ (RB.out.subB (by omega)) (by omega)).mono ?_
                    rintro e w24 ⟨A21, d21, rfl, ho21, hb24⟩
                    have O21 := Lib.hid ho21
                    clear ho21
                    go_wp2_with (at_builtin; with_reducible refine app_one _ c1_len one1 rfl (.tmp 76) (.tmp 78) 26 rfl w16.heap.size 2 i0 _ Try.underlying26 hi hz0 hz1 hz2 rfl (by decide) (by decide) A21 q d21 _ rfl (O21.out.alloc _) w24.heap.size 1 v rfl ?_ (by omega) ?_ ?_)
                    rotate_left 2
                    intro A25 c25 w25 hw25 hbw25
                    rotate_left 1
                    · exact news1 (Blk.cel (Blk.new _ _ _)).cell
                    · have h9 := hb24.size; simp; omega
                    have hb25 : Below w16.heap.size w16 w25 := (hb24.alloc hb24.size _).trans hbw25
                    have O22 : Hid (w25.ownsRow w16.heap.size 2 1 (.slice A25 (q + 1) c25) (q + 1) ((P2.take q ++ [v]).flatMap c1)) := own_eqB hw25 (by simp)
                    have R25 := Lib.hid (RB.out.on hb25)
                    have hdl2 : (P2.drop q).length = q - q := by rw [List.length_drop, hp2.out]
                    have zz2 := hb25.size
                    clear hw25 hbw25 hb24
                    go_wp2_with (at_builtin; with_reducible refine app_moreB _ c1_len one1 rfl (.tmp 80) (.tmp 83) 26 rfl w16.heap.size 2 i0 _ Try.underlying26 hi hz0 hz1 hz2 rfl (by decide) (by decide) A25 (q + 1) c25 (P2.take q ++ [v]) rfl O22.out g2 q 0 _ (P2.drop q) rfl ?_ ?_ (q + 1) (by omega) ?_ ?_ ?_)
                    all_goals first | omega | (intro A26 c26 w26 (ho26 : (World.ownsRow _ _ _ _ _ _ _)) hbw26) | (rw [hdl2]; done) | (rw [hdl2]; omega) | (intro j9 u9 hu9; have h8 := cellsB2 R25.out (Below.refl _ _) (show q ≤ q by omega) j9 u9 hu9; simpa using h8) | (simp; omega) | (simp; done)
                    obtain ⟨g26, rfl, hg260, hg261⟩ := own_at ho26 (by omega)
                    have hb26 : Below w16.heap.size w16 w26 := hb25.trans hbw26
                    have O23 : Hid (w26.ownsRow w16.heap.size 2 1 (.slice (some ⟨g26, 0, none⟩) (q + 1) c26) (q + 1) ((P2.take q ++ [v] ++ P2.drop q).flatMap c1)) := own_eqB ho26 (by simp)
                    clear ho26 hbw26 hg260 hg261 hb25
                    have HPF := HPX.out
                    go_wp2
                    exact ⟨⟨k + 1, q + 1, g16, c16, g26, c26, by go_num, by omega, rfl, rfl, HB1.out.trans (hb26.mono zB), own_eqB (own_mono (own_below O13.out hb26) hwt) (by rw [HPF.1]), own_eqB (own_mono O23.out zB) (by rw [HPF.2]), HQ9.out, by omega⟩, by simp [intOf]; omega⟩
                · have hcc19 := hcc1
                  with_reducible refine (l00OwnB_any g1 0 mm d1' (P1.take mm) _ (RJ1.out.subB (by omega)) (by omega)).mono ?_
                  rintro e w14 ⟨A11, d11, rfl, ho11, hb14⟩
                  have O11 := Lib.hid ho11
                  clear ho11
                  go_wp2_with (at_builtin; with_reducible refine app_one _ c1_len one1 rfl (.tmp 64) (.tmp 66) 26 rfl wo.heap.size 2 i0 _ Try.underlying26 hi hz0 hz1 hz2 rfl (by decide) (by decide) A11 mm d11 _ rfl (O11.out.alloc _) w14.heap.size 1 (k : Int) rfl ?_ (by omega) ?_ ?_)
                  rotate_left 2
                  intro A15 c15 w15 hw15 hbw15
                  rotate_left 1
                  · exact news1 (Blk.cel (Blk.new _ _ _)).cell
                  · have h9 := hb14.size; simp; omega
                  have hb15 : Below wo.heap.size wo w15 := (hb14.alloc hb14.size _).trans hbw15
                  have O12 : Hid (w15.ownsRow wo.heap.size 2 1 (.slice A15 (mm + 1) c15) (mm + 1) ((P1.take mm ++ [(k : Int)]).flatMap c1)) := own_eqB hw15 (by simp)
                  have R15 := Lib.hid (RJ1.out.on hb15)
                  have hdl1 : (P1.drop mm).length = q - mm := by rw [List.length_drop, hp1.out]
                  have zz1 := hb15.size
                  clear hw15 hbw15 hb14
                  go_wp2_with (at_builtin; with_reducible refine app_moreB _ c1_len one1 rfl (.tmp 68) (.tmp 71) 26 rfl wo.heap.size 2 i0 _ Try.underlying26 hi hz0 hz1 hz2 rfl (by decide) (by decide) A15 (mm + 1) c15 (P1.take mm ++ [(k : Int)]) rfl O12.out g1 mm (q - mm) _ (P1.drop mm) rfl ?_ ?_ (q + 1) (by omega) ?_ ?_ ?_)
                  all_goals first | omega | (intro A16 c16 w16 (ho16 : (World.ownsRow _ _ _ _ _ _ _)) hbw16) | (rw [hdl1]; done) | (rw [hdl1]; omega) | (intro j9 u9 hu9; have h8 := cellsB2 R15.out (Below.refl _ _) (show mm ≤ q by omega) j9 u9 hu9; simpa using h8) | (simp; omega) | (simp; done)
                  obtain ⟨g16, rfl, hg160, hg161⟩ := own_at ho16 (by omega)
                  have hb16 : Below wo.heap.size wo w16 := hb15.trans hbw16
                  have O13 : Hid (w16.ownsRow wo.heap.size 2 1 (.slice (some ⟨g16, 0, none⟩) (q + 1) c16) (q + 1) ((P1.take mm ++ [(k : Int)] ++ P1.drop mm).flatMap c1)) := own_eqB ho16 (by simp)
                  clear ho16 hbw16 hg160 hg161 hb15
                  have zA := hb16.size
                  have RB := Lib.hid (RJ2.out.on hb16)
                  have HB1 := Lib.hid (hbt.trans (hb16.mono hwt))
                  have zB := HB1.out.size
                  by_cases hcc2 : d2' = mm
                  · have hkm2 : q = mm := by omega
                    subst hcc2
                    subst hkm2
                    go_wp2_with fail
                    with_reducible refine (l00OwnB_any g2 0 q q (P2.take q) _ (RB.out.subB (by omega)) (by omega)).mono ?_
                    rintro e w24 ⟨A21, d21, rfl, ho21, hb24⟩
                    have O21 := Lib.hid ho21
                    clear ho21
                    go_wp2_with (at_builtin; with_reducible refine app_one _ c1_len one1 rfl (.tmp 76) (.tmp 78) 26 rfl w16.heap.size 2 i0 _ Try.underlying26 hi hz0 hz1 hz2 rfl (by decide) (by decide) A21 q d21 _ rfl (O21.out.alloc _) w24.heap.size 1 v rfl ?_ (by omega) ?_ ?_)
                    rotate_left 2
                    intro A25 c25 w25 hw25 hbw25
                    rotate_left 1
                    · exact news1 (Blk.cel (Blk.new _ _ _)).cell
                    · have h9 := hb24.size; simp; omega
                    have hb25 : Below w16.heap.size w16 w25 := (hb24.alloc hb24.size _).trans hbw25
                    have O22 : Hid (w25.ownsRow w16.heap.size 2 1 (.slice A25 (q + 1) c25) (q + 1) ((P2.take q ++ [v]).flatMap c1)) := own_eqB hw25 (by simp)
                    have R25 := Lib.hid (RB.out.on hb25)
                    have hdl2 : (P2.drop q).length = q - q := by rw [List.length_drop, hp2.out]
                    have zz2 := hb25.size
                    clear hw25 hbw25 hb24
                    go_wp2_with (at_builtin; with_reducible refine app_moreB _ c1_len one1 rfl (.tmp 80) (.tmp 83) 26 rfl w16.heap.size 2 i0 _ Try.underlying26 hi hz0 hz1 hz2 rfl (by decide) (by decide) A25 (q + 1) c25 (P2.take q ++ [v]) rfl O22.out g2 0 0 _ (P2.drop q) rfl ?_ ?_ (q + 1) (by omega) ?_ ?_ ?_)
                    all_goals first | omega | (intro A26 c26 w26 (ho26 : (World.ownsRow _ _ _ _ _ _ _)) hbw26) | (rw [hdl2]; done) | (rw [hdl2]; omega) | (intro j9 u9 hu9; rw [List.drop_of_length_le (by rw [hp2.out]; omega)] at hu9; simp at hu9) | (simp; omega) | (simp; done)
                    obtain ⟨g26, rfl, hg260, hg261⟩ := own_at ho26 (by omega)
                    have hb26 : Below w16.heap.size w16 w26 := hb25.trans hbw26
                    have O23 : Hid (w26.ownsRow w16.heap.size 2 1 (.slice (some ⟨g26, 0, none⟩) (q + 1) c26) (q + 1) ((P2.take q ++ [v] ++ P2.drop q).flatMap c1)) := own_eqB ho26 (by simp)
                    clear ho26 hbw26 hg260 hg261 hb25
                    have HPF := HPX.out
                    go_wp2
                    exact ⟨⟨k + 1, q + 1, g16, c16, g26, c26, by go_num, by omega, rfl, rfl, HB1.out.trans (hb26.mono zB), own_eqB (own_mono (own_below O13.out hb26) hwt) (by rw [HPF.1]), own_eqB (own_mono O23.out zB) (by rw [HPF.2]), HQ9.out, by omega⟩, by simp [intOf]; omega⟩
                  · have hcc29 := hcc2
                    go_wp2_with fail
                    with_reducible refine (l00OwnB_any g2 0 mm d2' (P2.take mm) _ (RB.out.subB (by omega)) (by omega)).mono ?_
                    rintro e w24 ⟨A21, d21, rfl, ho21, hb24⟩
                    have O21 := Lib.hid ho21
                    clear ho21
                    go_wp2_with (at_builtin; with_reducible refine app_one _ c1_len one1 rfl (.tmp 76) (.tmp 78) 26 rfl w16.heap.size 2 i0 _ Try.underlying26 hi hz0 hz1 hz2 rfl (by decide) (by decide) A21 mm d21 _ rfl (O21.out.alloc _) w24.heap.size 1 v rfl ?_ (by omega) ?_ ?_)
                    rotate_left 2
                    intro A25 c25 w25 hw25 hbw25
                    rotate_left 1
                    · exact news1 (Blk.cel (Blk.new _ _ _)).cell
                    · have h9 := hb24.size; simp; omega
                    have hb25 : Below w16.heap.size w16 w25 := (hb24.alloc hb24.size _).trans hbw25
                    have O22 : Hid (w25.ownsRow w16.heap.size 2 1 (.slice A25 (mm + 1) c25) (mm + 1) ((P2.take mm ++ [v]).flatMap c1)) := own_eqB hw25 (by simp)
                    have R25 := Lib.hid (RB.out.on hb25)
                    have hdl2 : (P2.drop mm).length = q - mm := by rw [List.length_drop, hp2.out]
                    have zz2 := hb25.size
                    clear hw25 hbw25 hb24
                    go_wp2_with (at_builtin; with_reducible refine app_moreB _ c1_len one1 rfl (.tmp 80) (.tmp 83) 26 rfl w16.heap.size 2 i0 _ Try.underlying26 hi hz0 hz1 hz2 rfl (by decide) (by decide) A25 (mm + 1) c25 (P2.take mm ++ [v]) rfl O22.out g2 mm (q - mm) _ (P2.drop mm) rfl ?_ ?_ (q + 1) (by omega) ?_ ?_ ?_)
                    all_goals first | omega | (intro A26 c26 w26 (ho26 : (World.ownsRow _ _ _ _ _ _ _)) hbw26) | (rw [hdl2]; done) | (rw [hdl2]; omega) | (intro j9 u9 hu9; have h8 := cellsB2 R25.out (Below.refl _ _) (show mm ≤ q by omega) j9 u9 hu9; simpa using h8) | (simp; omega) | (simp; done)
                    obtain ⟨g26, rfl, hg260, hg261⟩ := own_at ho26 (by omega)
                    have hb26 : Below w16.heap.size w16 w26 := hb25.trans hbw26
                    have O23 : Hid (w26.ownsRow w16.heap.size 2 1 (.slice (some ⟨g26, 0, none⟩) (q + 1) c26) (q + 1) ((P2.take mm ++ [v] ++ P2.drop mm).flatMap c1)) := own_eqB ho26 (by simp)
                    clear ho26 hbw26 hg260 hg261 hb25
                    have HPF := HPX.out
                    go_wp2
                    exact ⟨⟨k + 1, q + 1, g16, c16, g26, c26, by go_num, by omega, rfl, rfl, HB1.out.trans (hb26.mono zB), own_eqB (own_mono (own_below O13.out hb26) hwt) (by rw [HPF.1]), own_eqB (own_mono O23.out zB) (by rw [HPF.2]), HQ9.out, by omega⟩, by simp [intOf]; omega⟩
      · have hkm : k = m := by omega
        subst hkm
        have HL6 : Hid ((boL xs ls (bd : Int)).length = q) := by show _ = _; rw [boL_ok HC.out hl.out, List.length_map]; exact hsl.out
        have HC6 : Hid (wr.ownsRow w.heap.size 2 1 (.slice (some ⟨g1, 0, none⟩) q d1') q ((boL xs ls (bd : Int)).flatMap c1)) := by show World.ownsRow _ _ _ _ _ _ _; rw [boL_ok HC.out hl.out]; exact own_mono HO1.out (by have := hbw1.size; omega)
        have HB6 := Lib.hid (below_on hb hbw1)
        clear hb HO1 HO2
        go_wp2
        go_ret2
        rw [HC.out]
        exact ⟨_, q, d1', rfl, HC6.out, HL6.out, by omega, HB6.out⟩
  · have F := Lib.hid (boL_bad hc)
    have hc2 : (srE xs ls band == 0) = false := by simp; exact hc
    clear hr hs
    go_wp2
    go_ret2
    rw [F.out]
    exact ⟨none, 0, 0, rfl, World.ownsRow_nil _ _ _ _, rfl, by decide, hbw1⟩
end Go.Proofs.Ytkldejbhhbgefaa
