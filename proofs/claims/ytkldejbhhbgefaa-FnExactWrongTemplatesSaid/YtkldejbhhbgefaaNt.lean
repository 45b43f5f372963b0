/- The k nearest templates: the reference's side, by insertion. -/
import Derived.Test.YtkldejbhhbgefaaNr
import Derived.Deep.QuietTactic
import Derived.BigQuiet
namespace Go.Proofs.Ytkldejbhhbgefaa
open Go.ChangeShapes Go.WideShapes Go.ChangeAt Go.RowKit
set_option linter.unusedVariables false
set_option linter.unusedSimpArgs false
section
variable {P : Program} (w : World) {ops : Array Oper} {rest : List Oper} {o : Oper} {a : Act} {Q : Exit → Act → World → Prop}
/-- append of many elements (none, too) onto a row of the call's own. -/
theorem app_moreM {α : Type} {f : α → List Value} {S Y : Nat} (hf : ∀ x, (f x).length = S) (hone : ∀ x, ∀ u ∈ f x, u.oneCell' = true) (hg : o.guard = none) (s x : Operand) (t : TypeId)
    (ho : o.op = .call { callee := .builtin .append, args := #[s, x], argTypes := #[t, t] }) (base : Nat) (e : TypeId) (i : TypeInfo) (z : Value)
    (h1 : P.underlying t = some (.slice e)) (hi : P.info? e = some i) (hz : i.zero = some z) (hs : i.size = S) (hy : i.bytes = Y) (hzs : z.cells.size = S) (hS : 0 < S) (hY : Y ≤ 4096)
    (A : Option Addr) (n c : Nat) (l : List α) (hv : a.eval s = .slice A n c) (hown : w.ownsRow base e S (.slice A n c) n (l.flatMap f))
    (b off m c' : Nat) (xs : List α) (hx : a.eval x = .slice (some ⟨b, off, none⟩) m c') (hl : xs.length = m) (hcell : ∀ j u, (xs.flatMap f)[j]? = some u → w.cell? ⟨b, off + j, none⟩ = some u) (N : Nat) (hN : N = n + m) (hn : n + m ≤ 1048576) (hbase : base ≤ w.heap.size)
    (K : ∀ A' c' w', w'.ownsRow base e S (.slice A' N c') N ((l ++ xs).flatMap f) → Below base w w' → wpList P ops Q rest (a.put o.dst (.slice A' N c')) w') :
    wpList P ops Q (o :: rest) a w := by
  subst hN
  have hb : (n + m) * Y ≤ 140737488355328 := Nat.le_trans (Nat.mul_le_mul hn hY) (by decide)
  refine wpList_append_own w hg s x t ho base e i z S Y h1 hi hz hs hy hzs hS (.slice A n c) n (l.flatMap f) hv hown ⟨b, off, none⟩ m c' (xs.flatMap f) hx (by rw [flat_len hf, hl]) ?_ ?_ (by unfold maxLen; omega) hb hbase ?_
  · intro j u hu
    have h := hcell j u hu
    unfold Addr.add
    split
    · rename_i h0; subst h0; exact h
    · exact h
  · intro u hu
    obtain ⟨y, _, hy2⟩ := List.mem_flatMap.1 hu
    exact hone y u hy2
  · intro v' w' hown' hgrow _
    obtain ⟨A', c'', rfl, _, _⟩ := own_form hown'
    refine K A' c'' w' (by rw [List.flatMap_append]; exact hown') ?_
    exact (Below.refl _ _).grown hgrow hbase (fun k hk => (hown.lt k hk).1)
end
theorem cellsT {w w' : World} {base e g n c K : Nat} {ls : List T2} (h : w.ownsRow base e 2 (.slice (some ⟨g, 0, none⟩) n c) n (ls.flatMap c2)) (hb : Below w.heap.size w w') :
    ∀ j u, ((ls.take K).flatMap c2)[j]? = some u → w'.cell? ⟨g, 0 + j, none⟩ = some u := by
  intro j u hu
  have hj := (List.getElem?_eq_some_iff.1 hu).1
  have h9 : (ls.flatMap c2)[j]? = some u := by
    conv => lhs; rw [← List.take_append_drop K ls, List.flatMap_append]
    rw [List.getElem?_append_left hj]; exact hu
  have hjn : j < n * 2 := by have := h.1; have := (List.getElem?_eq_some_iff.1 h9).1; omega
  have h8 := (own_below h hb).cellAt j hjn
  rw [h9] at h8
  rw [Nat.zero_add]; exact h8
theorem cellsD {w w' : World} {base e g n c K : Nat} {ls : List T2} (h : w.ownsRow base e 2 (.slice (some ⟨g, 0, none⟩) n c) n (ls.flatMap c2)) (hb : Below w.heap.size w w') (hK : K ≤ n) :
    ∀ j u, ((ls.drop K).flatMap c2)[j]? = some u → w'.cell? ⟨g, K * 2 + j, none⟩ = some u := by
  intro j u hu
  have hl : ls.length * 2 = n * 2 := by have := h.1; rw [flat_len c2_len] at this; exact this
  have ht : ((ls.take K).flatMap c2).length = K * 2 := by rw [flat_len c2_len, List.length_take]; omega
  have h9 : (ls.flatMap c2)[K * 2 + j]? = some u := by
    conv => lhs; rw [← List.take_append_drop K ls, List.flatMap_append]
    rw [List.getElem?_append_right (by omega), ht, show K * 2 + j - K * 2 = j by omega]; exact hu
  have hjn : K * 2 + j < n * 2 := by have := h.1; have := (List.getElem?_eq_some_iff.1 h9).1; omega
  have h8 := (own_below h hb).cellAt (K * 2 + j) hjn
  rw [h9] at h8
  exact h8
theorem lit_noneM (w : World) (base : Nat) (hb : base ≤ w.heap.size) : (w.alloc (.cells #[] 92)).ownsRow base 92 2 (.slice (some ⟨w.heap.size, 0, none⟩) 0 0) 0 (([] : List T2).flatMap c2) := by
  simpa using World.ownsRow_lit (base := base) (e := 92) (size := 2) w #[] 0 hb (by simp [maxLen]) rfl
theorem own_lessM {w : World} {base e s n n' c g : Nat} {xs : List Value} (h : w.ownsRow base e s (.slice (some ⟨g, 0, none⟩) n c) n xs) (hn : n' ≤ n) : w.ownsRow base e s (.slice (some ⟨g, 0, none⟩) n' c) n' (xs.take (n' * s)) := by
  rcases h.2 with ⟨hv, _⟩ | ⟨g', cap, cur, hv, hg, hh, h1, h2, h3, h4⟩
  · cases hv
  · cases hv
    have h5 : n' * s ≤ n * s := Nat.mul_le_mul_right s hn
    refine ⟨by rw [List.length_take, h.1]; omega, .inr ⟨g, c, cur, rfl, hg, hh, by omega, h2, h3, ?_⟩⟩
    rw [← h4, List.take_take, Nat.min_eq_left h5]
theorem own_eqM {w : World} {b t s n : Nat} {v : Value} {xs ys : List Value} (h : w.ownsRow b t s v n xs) (e : xs = ys) : w.ownsRow b t s v n ys := e ▸ h
set_option maxRecDepth 100000 in
set_option maxHeartbeats 8000000 in
theorem l11Nearest_ptr (z kk : Int) (A B : Option Addr) (n ca m cb : Nat) (ts : List TV) (xs : List T3) (w : World) (g0 : Nat) (K0 : Cel w g0 0 (.int .i64 z)) (K1 : Cel w g0 1 (.slice A m cb)) (hs : TL w w.heap.size A m cb ts) (hr : RdL c3 3 w w.heap.size B n ca xs) (hm : totT ts ≤ 1048576) (hn : n ≤ 1048576) (V0 : storeB z ts = true) (V1 : featsOk 72 xs = true) (k1 : 1 ≤ kk) (k2 : kk ≤ 40) :
    Calls Try.prog 58 #[.pointer (some ⟨g0, 0, none⟩), .slice B n ca, .int .i64 kk] w fun e w' => ∃ A' n' c', e = .returned (.slice A' n' c') ∧ w'.ownsRow w.heap.size 92 2 (.slice A' n' c') n' ((nrS kk (mtS xs ts z m)).flatMap c2) ∧
      (nrS kk (mtS xs ts z m)).length = n' ∧ Below w.heap.size w w' := by
  obtain ⟨i0, hi, hz0, hz1, hz2⟩ := info_parts Try.infoMatch
  have hl := Lib.hid hs.len
  have hm40 : m ≤ 40 := by have h := storeB_len V0; rw [hl.out] at h; exact h
  have HV0 := Lib.hid V0
  have HV1 := Lib.hid V1
  have HM := Lib.hid hm
  clear hm V0 V1
  go_enter Try.func58, Try.ntmps58
  go_wp2_with fail
  go_wp2_with fail
  with_reducible refine (l11Matches_ptr z _ _ _ _ _ _ ts xs _ g0 K0 K1 hs hr HM.out hn HV0.out HV1.out).mono ?_
  rintro e w1 ⟨A', n', c0, rfl, ow, lw, hb1⟩
  clear K0 K1 hs hr
  have hlen := mtS_len xs ts z m
  obtain ⟨l, hml⟩ : ∃ l, mtS xs ts z m = l := ⟨_, rfl⟩
  rw [hml] at ow lw hlen
  have HML := Lib.hid hml
  have HB1 := Lib.hid hb1
  have HOL1 := Lib.hid ow
  have HL := Lib.hid lw
  have hn40 : n' ≤ 40 := by omega
  have zw := hb1.size
  clear ow lw hb1 hlen hml
  go_wp2_with fail
  go_loopw [8, 9] (fun s i wr => ∃ k g c' : Nat, k ≤ n' ∧ i = .int .i64 k ∧ s = .slice (some ⟨g, 0, none⟩) k c' ∧ w1.heap.size ≤ g ∧ Below w1.heap.size w1 wr ∧ Hid (wr.ownsRow w1.heap.size 92 2 (.slice (some ⟨g, 0, none⟩) k c') k ((insM l k).flatMap c2))) (fun _ i _ => n' - (intOf i).toNat)
  case atStart => exact ⟨0, w1.heap.size, 0, by omega, rfl, rfl, Nat.le_refl _, (by repeat (first | exact Below.refl _ _ | assumption | refine Below.drew ?_ | refine below_drewN ?_ _ | refine Below.alloc ?_ (by first | omega | (simp <;> omega)) _ | refine Below.setCell ?_ (by first | omega | (simp <;> omega)) _)), lit_noneM w1 _ (Nat.le_refl _)⟩
  case round =>
    obtain ⟨k, g, c', hk, rfl, rfl, hg, hb, HO⟩ := hrel
    have hsz := hb.size
    by_cases hlt : k < n'
    · obtain ⟨gl, rfl, hgl0, hgl1⟩ := own_at HOL1.out (by omega)
      have HOL := Lib.hid (own_below HOL1.out hb)
      obtain ⟨⟨v0, v1⟩, hv⟩ : ∃ v, l[k]? = some v := ⟨_, List.getElem?_eq_getElem (by rw [HL.out]; exact hlt)⟩
      obtain ⟨p0, p1, pf0, pf1⟩ := own_at2 HOL.out hv
      simp only at p0 p1
      have HV := Lib.hid hv
      have hil : Hid ((insM l k).length = k) := insM_len (by rw [HL.out]; exact hk)
      have hglw : gl < wr.heap.size := (HOL.out.lt gl rfl).2
      have hgw : g < wr.heap.size := (HO.out.lt g rfl).2
      have i1 : (k : Int) < (n' : Int) := by omega
      have i2 : (0 : Int) ≤ (k : Int) := by omega
      clear hv
      go_wp2_with fail
      obtain ⟨wo, rfl⟩ : ∃ wo, wo = wr := ⟨_, rfl⟩
      go_loopw [10] (fun q wi => ∃ j : Nat, j ≤ k ∧ q = .int .i64 j ∧ Below wo.heap.size wo wi ∧ Hid (slotR leK (insM l k) (v0, v1) k = slotR leK (insM l k) (v0, v1) j)) (fun q _ => (intOf q).toNat)
      case atStart => exact ⟨k, Nat.le_refl _, rfl, Below.refl _ _, rfl⟩
      case round =>
        obtain ⟨j, hj, rfl, hbi, hsl⟩ := hrel
        match j, hj, hsl with
        | 0, hj, hsl =>
          have HP := Lib.hid (insK_of (k := 0) hil.out (hsl.out.trans rfl))
          clear hsl
          go_wp2_with fail
          go_quiet (fail)
          have hbi2 : Below wo.heap.size wo (wr.drewN nq) := below_drewN hbi nq
          generalize wr.drewN nq = wi at *
          have OWi := Lib.hid (own_below HO.out hbi2)
          have OLi := Lib.hid (own_below HOL.out hbi2)
          have hcap := (RdL.of_own hil.out OWi.out).cap
          have hcapm := (RdL.of_own hil.out OWi.out).capm
          have HBi := Lib.hid (hb.trans (hbi2.mono hsz))
          have zj := HBi.out.size
          have HTL : Hid (((insM l k).take 0).length = 0) := by show _ = _; rw [List.length_take, hil.out]; omega
          clear hbi hbi2 hb
          have s1 : (0 : Int) ≤ (c' : Int) := by omega
          have s2 : 0 ≤ c' := by omega
          clear p0 p1 pf0 pf1
          go_wp2_with (at_builtin; with_reducible refine app_moreM _ c2_len one2 rfl (.tmp 42) (.tmp 45) 52 rfl wi.heap.size 92 i0 _ Try.underlying52 hi hz0 hz1 hz2 rfl (by decide) (by decide) (some ⟨wi.heap.size, 0, none⟩) 0 0 [] rfl (lit_noneM wi _ (Nat.le_refl _)) g 0 0 c' ((insM l k).take 0) rfl HTL.out ?_ 0 (by omega) ?_ ?_ ?_)
          all_goals first | omega | (intro A1 c1' w3 (ho3 : (World.ownsRow _ _ _ _ _ _ _)) hb3) | (intro j9 u9 hu9; exact cellsT OWi.out ((Below.refl _ _).alloc (Nat.le_refl _) _) j9 u9 hu9) | (simp; omega) | (simp; done)
          have hb3i : Below wi.heap.size wi w3 := ((Below.refl wi.heap.size wi).alloc (Nat.le_refl _) _).trans hb3
          have OL3 := Lib.hid (own_below OLi.out hb3i)
          have O3 := Lib.hid (own_eqM (ys := ((insM l k).take 0).flatMap c2) ho3 (by simp))
          obtain ⟨p0, p1, pf0, pf1⟩ := own_at2 OL3.out HV.out
          simp only at p0 p1
          have hgl3 := (OL3.out.lt gl rfl).2
          have zk := hb3i.size
          clear ho3 hb3
          go_wp2_with (at_builtin; with_reducible refine app_one _ c2_len one2 rfl (.tmp 47) (.tmp 52) 52 rfl wi.heap.size 92 i0 _ Try.underlying52 hi hz0 hz1 hz2 rfl (by decide) (by decide) A1 0 c1' _ rfl (O3.out.alloc _) w3.heap.size 1 (v0, v1) rfl ?_ (by omega) ?_ ?_)
          rotate_left 2
          intro A2 c2' w4 hw4 hbw4
          rotate_left 1
          · exact news2 (Cell2.new _ _ _ _)
          · simp; omega
          have hb4i : Below wi.heap.size wi w4 := (hb3i.alloc hb3i.size _).trans hbw4
          have OW4 := Lib.hid (own_below OWi.out hb4i)
          have O4 : Hid (w4.ownsRow wi.heap.size 92 2 (.slice A2 1 c2') 1 ((((insM l k).take 0) ++ [(v0, v1)]).flatMap c2)) := own_eqM hw4 (by simp)
          have HBT := Lib.hid (HBi.out.trans (hb4i.mono zj))
          have zl := hb4i.size
          have hdl : ((insM l k).drop 0).length = k - 0 := by rw [List.length_drop, hil.out]
          have HIN : Hid (insM l (k + 1) = insR leK (insM l k) (v0, v1)) := insM_step HV.out
          clear hw4 hbw4 hb3i hb4i p0 p1 pf0 pf1
          go_wp2_with (at_builtin; with_reducible refine app_moreM _ c2_len one2 rfl (.tmp 54) (.tmp 57) 52 rfl wi.heap.size 92 i0 _ Try.underlying52 hi hz0 hz1 hz2 rfl (by decide) (by decide) A2 1 c2' (((insM l k).take 0) ++ [(v0, v1)]) rfl O4.out g 0 k _ ((insM l k).drop 0) rfl ?_ ?_ (k + 1) (by omega) ?_ ?_ ?_)
          all_goals first | omega | (intro A3 c3 w5 (ho5 : (World.ownsRow _ _ _ _ _ _ _)) hb5) | (rw [hdl]; done) | (rw [hdl]; omega) | (intro j9 u9 hu9; have h8 := cellsD OW4.out (Below.refl _ _) (show 0 ≤ k by omega) j9 u9 hu9; simpa using h8) | (simp; omega) | (simp; done)
          obtain ⟨g5, rfl, hg50, hg51⟩ := own_at ho5 (by omega)
          have O5 := Lib.hid (own_mono ho5 zj)
          have HB5 := HBT.out.trans (hb5.mono zj)
          have hg59 : w1.heap.size ≤ g5 := Nat.le_trans zj hg50
          clear ho5 hb5 hg50
          go_wp2
          exact ⟨⟨k + 1, g5, c3, by omega, by go_num, rfl, hg59, HB5, by show World.ownsRow _ _ _ _ _ _ _; rw [HIN.out, HP.out]; exact own_eqM O5.out (by simp)⟩, by simp [intOf]; omega⟩
        | j + 1, hj, hsl =>
          obtain ⟨⟨y0, y1⟩, hy⟩ : ∃ y, (insM l k)[j]? = some y := ⟨_, List.getElem?_eq_getElem (by rw [hil.out]; omega)⟩
          obtain ⟨q0, q1, qf0, qf1⟩ := own_at2 HO.out hy
          simp only at q0 q1
          have hzi := hbi.size
          have j0 : IntKind.i64.wrap (((j + 1 : Nat) : Int) - 1) = (j : Int) := by rw [IntWalk.i64_in _ (by omega)]; omega
          have j1 : (0 : Int) < ((j + 1 : Nat) : Int) := by omega
          have j2 : (j : Int) < (k : Int) := by omega
          have j3 : (0 : Int) ≤ (j : Int) := by omega
          have p1r := (hbi.cell (p := ⟨gl, k * 2 + 1, none⟩) hglw).trans p1
          have q1r := (hbi.cell (p := ⟨g, j * 2 + 1, none⟩) hgw).trans q1
          clear q0 q1 qf0 qf1
          by_cases hc : v1 < y1
          · have HP := Lib.hid (slotK_no (v := (v0, v1)) hy (show v1 < y1 from hc))
            clear hy
            go_wp2_with fail
            go_quiet (fail)
            go_wp2_with fail
            exact ⟨⟨j, by omega, rfl, below_drewN hbi _, hsl.out.trans HP.out⟩, by simp [intOf]⟩
          · have HP := Lib.hid (insK_of hil.out (hsl.out.trans (slotK_yes (v := (v0, v1)) hy (show y1 ≤ v1 by omega))))
            clear hy
            go_wp2_with fail
            go_quiet (fail)
            clear j0 j1 hsl p1r q1r
            generalize hjm : j + 1 = m at *
            have hjm2 : m ≤ k := by omega
            have hjm3 : (j : Int) + 1 = (m : Int) := by omega
            have s0 : (0 : Int) ≤ (m : Int) := by omega
            have hbi2 : Below wo.heap.size wo (wr.drewN nq) := below_drewN hbi nq
            generalize wr.drewN nq = wi at *
            have OWi := Lib.hid (own_below HO.out hbi2)
            have OLi := Lib.hid (own_below HOL.out hbi2)
            have hcap := (RdL.of_own hil.out OWi.out).cap
            have hcapm := (RdL.of_own hil.out OWi.out).capm
            have HBi := Lib.hid (hb.trans (hbi2.mono hsz))
            have zj := HBi.out.size
            have HTL : Hid (((insM l k).take m).length = m) := by show _ = _; rw [List.length_take, hil.out]; omega
            clear hbi hbi2 hb
            have s1 : (m : Int) ≤ (c' : Int) := by omega
            have s2 : m ≤ c' := by omega
            clear p0 p1 pf0 pf1
            go_wp2_with (at_builtin; with_reducible refine app_moreM _ c2_len one2 rfl (.tmp 42) (.tmp 45) 52 rfl wi.heap.size 92 i0 _ Try.underlying52 hi hz0 hz1 hz2 rfl (by decide) (by decide) (some ⟨wi.heap.size, 0, none⟩) 0 0 [] rfl (lit_noneM wi _ (Nat.le_refl _)) g 0 m c' ((insM l k).take m) rfl HTL.out ?_ m (by omega) ?_ ?_ ?_)
            all_goals first | omega | (intro A1 c1' w3 (ho3 : (World.ownsRow _ _ _ _ _ _ _)) hb3) | (intro j9 u9 hu9; exact cellsT OWi.out ((Below.refl _ _).alloc (Nat.le_refl _) _) j9 u9 hu9) | (simp; omega) | (simp; done)
            have hb3i : Below wi.heap.size wi w3 := ((Below.refl wi.heap.size wi).alloc (Nat.le_refl _) _).trans hb3
            have OL3 := Lib.hid (own_below OLi.out hb3i)
            have O3 := Lib.hid (own_eqM (ys := ((insM l k).take m).flatMap c2) ho3 (by simp))
            obtain ⟨p0, p1, pf0, pf1⟩ := own_at2 OL3.out HV.out
            simp only at p0 p1
            have hgl3 := (OL3.out.lt gl rfl).2
            have zk := hb3i.size
            clear ho3 hb3
            go_wp2_with (at_builtin; with_reducible refine app_one _ c2_len one2 rfl (.tmp 47) (.tmp 52) 52 rfl wi.heap.size 92 i0 _ Try.underlying52 hi hz0 hz1 hz2 rfl (by decide) (by decide) A1 m c1' _ rfl (O3.out.alloc _) w3.heap.size 1 (v0, v1) rfl ?_ (by omega) ?_ ?_)
            rotate_left 2
            intro A2 c2' w4 hw4 hbw4
            rotate_left 1
            · exact news2 (Cell2.new _ _ _ _)
            · simp; omega
            have hb4i : Below wi.heap.size wi w4 := (hb3i.alloc hb3i.size _).trans hbw4
            have OW4 := Lib.hid (own_below OWi.out hb4i)
            have O4 : Hid (w4.ownsRow wi.heap.size 92 2 (.slice A2 (m + 1) c2') (m + 1) ((((insM l k).take m) ++ [(v0, v1)]).flatMap c2)) := own_eqM hw4 (by simp)
            have HBT := Lib.hid (HBi.out.trans (hb4i.mono zj))
            have zl := hb4i.size
            have hdl : ((insM l k).drop m).length = k - m := by rw [List.length_drop, hil.out]
            have HIN : Hid (insM l (k + 1) = insR leK (insM l k) (v0, v1)) := insM_step HV.out
            clear hw4 hbw4 hb3i hb4i p0 p1 pf0 pf1
            by_cases hcc : c' = m
            · have hkm : k = m := by omega
              subst hcc
              subst hkm
              go_wp2_with (at_builtin; with_reducible refine app_moreM _ c2_len one2 rfl (.tmp 54) (.tmp 57) 52 rfl wi.heap.size 92 i0 _ Try.underlying52 hi hz0 hz1 hz2 rfl (by decide) (by decide) A2 (k + 1) c2' (((insM l k).take k) ++ [(v0, v1)]) rfl O4.out g 0 0 _ ((insM l k).drop k) rfl ?_ ?_ (k + 1) (by omega) ?_ ?_ ?_)
              all_goals first | omega | (intro A3 c3 w5 (ho5 : (World.ownsRow _ _ _ _ _ _ _)) hb5) | (rw [hdl]; done) | (rw [hdl]; omega) | (intro j9 u9 hu9; rw [List.drop_of_length_le (by rw [hil.out]; omega)] at hu9; simp at hu9) | (simp; omega) | (simp; done)
              obtain ⟨g5, rfl, hg50, hg51⟩ := own_at ho5 (by omega)
              have O5 := Lib.hid (own_mono ho5 zj)
              have HB5 := HBT.out.trans (hb5.mono zj)
              have hg59 : w1.heap.size ≤ g5 := Nat.le_trans zj hg50
              clear ho5 hb5 hg50
              go_wp2
              exact ⟨⟨k + 1, g5, c3, by omega, by go_num, rfl, hg59, HB5, by show World.ownsRow _ _ _ _ _ _ _; rw [HIN.out, HP.out]; exact own_eqM O5.out (by simp)⟩, by simp [intOf]; omega⟩
            · have hcc9 := hcc
              go_wp2_with (at_builtin; with_reducible refine app_moreM _ c2_len one2 rfl (.tmp 54) (.tmp 57) 52 rfl wi.heap.size 92 i0 _ Try.underlying52 hi hz0 hz1 hz2 rfl (by decide) (by decide) A2 (m + 1) c2' (((insM l k).take m) ++ [(v0, v1)]) rfl O4.out g (m * 2) (k - m) _ ((insM l k).drop m) rfl ?_ ?_ (k + 1) (by omega) ?_ ?_ ?_)
              all_goals first | omega | (intro A3 c3 w5 (ho5 : (World.ownsRow _ _ _ _ _ _ _)) hb5) | (rw [hdl]; done) | (rw [hdl]; omega) | (intro j9 u9 hu9; have h8 := cellsD OW4.out (Below.refl _ _) (show m ≤ k by omega) j9 u9 hu9; simpa using h8) | (simp; omega) | (simp; done)
              obtain ⟨g5, rfl, hg50, hg51⟩ := own_at ho5 (by omega)
              have O5 := Lib.hid (own_mono ho5 zj)
              have HB5 := HBT.out.trans (hb5.mono zj)
              have hg59 : w1.heap.size ≤ g5 := Nat.le_trans zj hg50
              clear ho5 hb5 hg50
              go_wp2
              exact ⟨⟨k + 1, g5, c3, by omega, by go_num, rfl, hg59, HB5, by show World.ownsRow _ _ _ _ _ _ _; rw [HIN.out, HP.out]; exact own_eqM O5.out (by simp)⟩, by simp [intOf]; omega⟩
    · have hkn : k = n' := by omega
      subst hkn
      obtain ⟨q, hq⟩ : ∃ q : Nat, min kk (k : Int) = (q : Int) := ⟨(min kk (k : Int)).toNat, by omega⟩
      have HX : Hid (nrS kk l = (insM l k).take q) := by show _ = _; unfold nrS; rw [insM_all HL.out, HL.out, hq]; rfl
      have hil : Hid ((insM l k).length = k) := insM_len (by rw [HL.out]; exact hk)
      have hqn : q ≤ k := by omega
      have hcap := (RdL.of_own hil.out HO.out).cap
      have hcapm := (RdL.of_own hil.out HO.out).capm
      have HBE := Lib.hid (HB1.out.trans (hb.mono zw))
      have i1 : (q : Int) ≤ (c' : Int) := by omega
      have i2 : (0 : Int) ≤ (q : Int) := by omega
      have hqc : q ≤ c' := by omega
      have hql : ((insM l k).take q).length = q := by rw [List.length_take, hil.out]; omega
      have OX : Hid (wr.ownsRow w.heap.size 92 2 (.slice (some ⟨g, 0, none⟩) q c') q (((insM l k).take q).flatMap c2)) := by
        show World.ownsRow _ _ _ _ _ _ _
        rw [← take2]; exact own_lessM (own_mono HO.out zw) hqn
      have HQ := Lib.hid hq
      clear hq
      go_wp2_with (first | (go_at_call 92; with_reducible refine (l00Min_any _ _ _).mono ?_; rintro e w' ⟨rfl, rfl⟩; rw [HQ.out]))
      go_ret
      rw [HML.out, HX.out]
      exact ⟨_, q, c', rfl, OX.out, hql, HBE.out⟩
end Go.Proofs.Ytkldejbhhbgefaa
