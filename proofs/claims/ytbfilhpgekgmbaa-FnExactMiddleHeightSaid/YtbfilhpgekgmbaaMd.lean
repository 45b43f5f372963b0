/- Medians: the program's by the library's sort, the reference's by insertion. -/
import Derived.Test.YtbfilhpgekgmbaaSn
import Derived.Test.YtbfilhpgekgmbaaFlInt
import Derived.Test.YtbfilhpgekgmbaaSu
import Derived.Test.YtbfilhpgekgmbaaPk
import Derived.Test.YtbfilhpgekgmbaaSq
import Derived.Sort.OwnSortedInts
import Derived.WalkLawsBesides
import Derived.Deep.RegionHeld3
import Derived.IntWalk
namespace Go.Proofs.Ytbfilhpgekgmbaa
open Go.ChangeShapes Go.WideShapes Go.ChangeAt Go.RowKit
set_option linter.unusedVariables false
set_option linter.unusedSimpArgs false
theorem own_eqI {w : World} {b t s n : Nat} {v : Value} {xs ys : List Value} (h : w.ownsRow b t s v n xs) (e : xs = ys) : w.ownsRow b t s v n ys := e ▸ h
theorem flat_c1 (zs : List Int) : zs.flatMap c1 = zs.map (Value.int .i64) := by
  induction zs with
  | nil => rfl
  | cons a l ih => rw [List.map_cons, List.flatMap_cons, ih]; rfl
def sortI (xs : List Int) : List Int := xs.mergeSort fun x y => decide (x ≤ y)
theorem sortI_len (xs : List Int) : (sortI xs).length = xs.length := List.length_mergeSort xs
theorem sortI_fold (xs : List Int) : xs.foldl (insR leI) [] = sortI xs := fold_ints xs
def medI (xs : List Int) : Int := (sortI xs).getD ((xs.length - 1) / 2) 0
theorem oneI (x : Int) : ∀ u ∈ c1 x, u.oneCell' = true := by intro u hu; simp [c1] at hu; subst hu; rfl
theorem slotR_no {l : List Int} {v : Int} {k : Nat} {y : Int} (hy : l[k]? = some y) (h : v < y) : slotR leI l v (k + 1) = slotR leI l v k := by
  rw [slotR, getD_of hy, if_neg]; unfold leI; simp; omega
theorem slotR_yes {l : List Int} {v : Int} {k : Nat} {y : Int} (hy : l[k]? = some y) (h : y ≤ v) : slotR leI l v (k + 1) = k + 1 := by
  rw [slotR, getD_of hy, if_pos]; unfold leI; simp; omega
theorem insR_of {l : List Int} {v : Int} {k n : Nat} (hl : l.length = n) (h : slotR leI l v n = k) : insR leI l v = l.take k ++ v :: l.drop k := by unfold insR; rw [hl, h]
def insN (xs : List Int) (k : Nat) : List Int := (xs.take k).foldl (insR leI) []
theorem insN_step {xs : List Int} {k : Nat} {v : Int} (h : xs[k]? = some v) : insN xs (k + 1) = insR leI (insN xs k) v := fold_step (f := insR leI) h
theorem insN_len {xs : List Int} {k : Nat} (h : k ≤ xs.length) : (insN xs k).length = k := by
  have h2 := (fold_insR leI_trans leI_total (xs.take k) [] List.Pairwise.nil).2.length_eq
  rw [List.append_nil, List.length_take] at h2
  unfold insN; omega
theorem insN_all {xs : List Int} {n : Nat} (h : xs.length = n) : insN xs n = sortI xs := by unfold insN; rw [List.take_of_length_le (by omega)]; exact sortI_fold xs
theorem Cell1.new (w : World) (t : TypeId) (x : Int) : ∀ j u, (c1 x)[j]? = some u → (w.alloc (.cells #[.int .i64 x] t)).cell? ⟨w.heap.size, j, none⟩ = some u := by
  intro j u hu
  have hk := (Blk.new w t #[.int .i64 x]).cell j
  rw [hk]
  match j, hu with
  | 0, hu => simpa [c1] using hu
  | j + 1, hu => simp [c1] at hu
section
variable {P : Program} (w : World) {ops : Array Oper} {rest : List Oper} {o : Oper} {a : Act} {Q : Exit → Act → World → Prop}
/-- append of many elements (none, too) onto a row of the call's own. -/
theorem app_moreI {α : Type} {f : α → List Value} {S Y : Nat} (hf : ∀ x, (f x).length = S) (hone : ∀ x, ∀ u ∈ f x, u.oneCell' = true) (hg : o.guard = none) (s x : Operand) (t : TypeId)
    (ho : o.op = .call { callee := .builtin .append, args := #[s, x], argTypes := #[t, t] }) (base : Nat) (e : TypeId) (i : TypeInfo) (z : Value)
    (h1 : P.underlying t = some (.slice e)) (hi : P.info? e = some i) (hz : i.zero = some z) (hs : i.size = S) (hy : i.bytes = Y) (hzs : z.cells.size = S) (hS : 0 < S) (hY : Y ≤ 4096)
    (A : Option Addr) (n c : Nat) (l : List α) (hv : a.eval s = .slice A n c) (hown : w.ownsRow base e S (.slice A n c) n (l.flatMap f))
    (b off m c' : Nat) (xs : List α) (hx : a.eval x = .slice (some ⟨b, off, none⟩) m c') (hl : xs.length = m) (hcell : ∀ j u, (xs.flatMap f)[j]? = some u → w.cell? ⟨b, off + j, none⟩ = some u) (N : Nat) (hN : N = n + m) (hn : n + m ≤ 1048576) (hbase : base ≤ w.heap.size)
    (K : ∀ A' c' w', w'.ownsRow base e S (.slice A' N c') N ((l ++ xs).flatMap f) → Below base w w' → wpList P ops Q rest (a.put o.dst (.slice A' N c')) w') :
    wpList P ops Q (o :: rest) a w := by
  subst hN
  have hb : (n + m) * Y ≤ 140737488355328 := Nat.le_trans (Nat.mul_le_mul hn hY) (by decide)
  refine wpList_append_own w hg s x t ho base e i z S Y h1 hi hz hs hy hzs hS (.slice A n c) n (l.flatMap f) hv hown ⟨b, off, none⟩ m c' (xs.flatMap f) hx (by rw [flat_len hf, hl]) ?_ ?_ (by unfold maxLen; omega) hb hbase ?_
  · intro j u hu
    have h := hcell j u hu
    unfold Addr.add
    split
    · rename_i h0; subst h0; exact h
    · exact h
  · intro u hu
    obtain ⟨y, _, hy2⟩ := List.mem_flatMap.1 hu
    exact hone y u hy2
  · intro v' w' hown' hgrow _
    obtain ⟨A', c'', rfl, _, _⟩ := own_form hown'
    refine K A' c'' w' (by rw [List.flatMap_append]; exact hown') ?_
    exact (Below.refl _ _).grown hgrow hbase (fun k hk => (hown.lt k hk).1)
end
theorem cellsI {w w' : World} {b0 o0 n c K : Nat} {ls : List Int} (h : RdL c1 1 w w.heap.size (some ⟨b0, o0, none⟩) n c ls) (hb : Below w.heap.size w w') (hK : K ≤ n) :
    ∀ j u, ((ls.take K).flatMap c1)[j]? = some u → w'.cell? ⟨b0, o0 + j, none⟩ = some u := by
  intro j u hu
  have h1 := RdL.sub c1_len (h.below hb) (a := 0) (k := K) (by omega)
  obtain ⟨_, _, _, _, h4⟩ := h1
  rcases Nat.eq_zero_or_pos K with h0 | h0
  · subst h0; simp at hu
  · obtain ⟨b, off, e, _, hc⟩ := h4 h0
    cases e
    have h2 := hc j u (by simpa using hu)
    simpa using h2
theorem cellsI2 {w w' : World} {b0 n c K : Nat} {ls : List Int} (h : RdL c1 1 w w.heap.size (some ⟨b0, 0, none⟩) n c ls) (hb : Below w.heap.size w w') (hK : K ≤ n) :
    ∀ j u, ((ls.drop K).flatMap c1)[j]? = some u → w'.cell? ⟨b0, K + j, none⟩ = some u := by
  intro j u hu
  have hl := h.len
  have h1 := RdL.sub c1_len (h.below hb) (a := K) (k := n - K) (by omega)
  obtain ⟨_, _, _, _, h4⟩ := h1
  rcases Nat.eq_zero_or_pos (n - K) with h0 | h0
  · rw [List.drop_of_length_le (by omega)] at hu; simp at hu
  · obtain ⟨b, off, e, _, hc⟩ := h4 h0
    cases e
    have h2 := hc j u (by rw [List.take_of_length_le (by rw [List.length_drop]; omega)]; exact hu)
    simpa using h2
theorem RdL.sub9 {w : World} {B b0 n c K : Nat} {ls : List Int} (h : RdL c1 1 w B (some ⟨b0, 0, none⟩) n c ls) (hK : K ≤ n) : RdL c1 1 w B (some ⟨b0, 0, none⟩) K c (ls.take K) := by
  have h1 := RdL.sub c1_len h (a := 0) (k := K) (by omega)
  simpa using h1
theorem Try.underlyingInts : Try.prog.underlying 73 = some (.slice 2) := by kernel_rfl
theorem lit_none (w : World) (base : Nat) (hb : base ≤ w.heap.size) : (w.alloc (.cells #[] 2)).ownsRow base 2 1 (.slice (some ⟨w.heap.size, 0, none⟩) 0 0) 0 (([] : List Int).flatMap c1) := by
  simpa using World.ownsRow_lit (base := base) (e := 2) (size := 1) w #[] 0 hb (by simp [maxLen]) rfl
theorem sortOwnI {base e g n cap : Nat} {zs : List Int} {w : World} (h : w.ownsRow base e 1 (.slice (some ⟨g, 0, none⟩) n cap) n (zs.flatMap c1)) (hl : zs.length = n) (hn : n ≤ 1048576) :
    Calls Try.prog 89 #[.slice (some ⟨g, 0, none⟩) n cap] w fun r w' => r = .returned (.tuple #[]) ∧
      w'.ownsRow base e 1 (.slice (some ⟨g, 0, none⟩) n cap) n ((sortI zs).flatMap c1) ∧ Below base w w' := by
  rw [flat_c1] at h
  rw [flat_c1]
  rcases h.2 with ⟨e0, _⟩ | ⟨g', cap', cur, e0, hb, hg, h1, h2, h3, h4⟩
  · cases e0
  · cases e0
    subst hl
    refine (AnyG.slices_Sort_int Try.laysSortI g 0 cap zs w (holds_of_blockI hg (by simpa using h4)) (Array.getElem?_eq_some_iff.1 hg).1 (by omega)).mono ?_
    rintro r w' ⟨rfl, n9, os, rfl⟩
    exact ⟨rfl, ownsRow_sortedI (sortI_len zs) hb hg h1 h2 h3, (Below.refl base w).grown (grownBy_sortedI _) (by have := (Array.getElem?_eq_some_iff.1 hg).1; omega) (fun k hk => by cases hk; exact hb)⟩
theorem medianOf_any {base n c : Nat} {A : Option Addr} {xs : List Int} (w : World) (h : w.ownsRow base 2 1 (.slice A n c) n (xs.flatMap c1)) (hl : xs.length = n) (h0 : 0 < n) (hn : n ≤ 1048576) :
    Calls Try.prog 76 #[.slice A n c] w fun e w' => e = .returned (.int .i64 (medI xs)) ∧ Below base w w' := by
  obtain ⟨g, rfl, hg0, hg1⟩ := own_at h h0
  have HO := Lib.hid h
  have HL := Lib.hid hl
  clear h hl
  go_enter Try.func76, Try.ntmps76
  go_wp2_with fail
  with_reducible refine (sortOwnI HO.out HL.out hn).mono ?_
  rintro e w2 ⟨rfl, ho2, hb2⟩
  have hsl : (sortI xs).length = n := by rw [sortI_len]; exact HL.out
  have hr := RdL.of_own hsl ho2
  obtain ⟨b, off, y, he, hbl, hy, q0⟩ := hr.at1 (show (n - 1) / 2 < n by omega)
  cases he
  have HM : Hid (medI xs = y) := by show _ = _; unfold medI; rw [HL.out]; exact getD_of hy.out
  obtain ⟨m, hm⟩ : ∃ m, (n - 1) / 2 = m := ⟨_, rfl⟩
  rw [hm, Nat.zero_add] at q0
  have i1 : IntKind.i64.wrap ((n : Int) - 1) = ((n - 1 : Nat) : Int) := by rw [IntWalk.i64_in _ (by omega)]; omega
  have i2 : ((n - 1 : Nat) : Int).tdiv 2 = (m : Int) := by rw [Int.tdiv_eq_ediv_of_nonneg (by omega)]; omega
  have i3 : IntKind.i64.wrap (m : Int) = (m : Int) := IntWalk.i64_in _ (by omega)
  have i4 : (m : Int) < (n : Int) := by omega
  have i5 : (0 : Int) ≤ (m : Int) := by omega
  have HB := Lib.hid hb2
  clear hr ho2 hb2 hy
  go_wp2
  go_ret
  exact ⟨ret_int HM.out.symm, HB.out⟩
theorem l00Own_any (b off n c : Nat) (xs : List Int) (w : World) (hr : RdL c1 1 w w.heap.size (some ⟨b, off, none⟩) n c xs) (hn : n ≤ 100000) :
    Calls Try.prog 75 #[.slice (some ⟨b, off, none⟩) n c] w fun e w' => ∃ A' c', e = .returned (.slice A' n c') ∧ w'.ownsRow w.heap.size 2 1 (.slice A' n c') n (xs.flatMap c1) ∧ Below w.heap.size w w' := by
  obtain ⟨i0, hi, hz0, hz1, hz2⟩ := info_parts Try.infoInt64
  have HL := Lib.hid hr.len
  have HR := Lib.hid hr
  have HT := Lib.hid (show xs.take n = xs from List.take_of_length_le (by rw [hr.len]; exact Nat.le_refl _))
  clear hr
  go_enter Try.func75, Try.ntmps75
  go_wp2_with (at_builtin; with_reducible refine app_moreI _ c1_len oneI rfl (.tmp 3) (.tmp 4) 73 rfl w.heap.size 2 i0 _ Try.underlyingInts hi hz0 hz1 hz2 rfl (by decide) (by decide) (some ⟨w.heap.size, 0, none⟩) 0 0 [] rfl (lit_none w _ (Nat.le_refl _)) b off n c xs rfl HL.out ?_ n (by omega) ?_ ?_ ?_)
  all_goals first | omega | (intro j u hu; exact cellsI HR.out ((Below.refl _ _).alloc (Nat.le_refl _) _) (Nat.le_refl n) j u (by rw [HT.out]; exact hu)) | (intro A1 c1' w1 (ho1 : (World.ownsRow _ _ _ _ _ _ _)) hb1) | (simp; omega) | (simp; done)
  have O1 := Lib.hid ho1
  have B1 := ((Below.refl w.heap.size w).alloc (Nat.le_refl _) (.cells #[] 2)).trans hb1
  clear ho1 hb1
  go_wp2
  go_ret
  exact ⟨A1, c1', rfl, own_eqI O1.out (by simp), B1⟩
set_option maxRecDepth 100000 in
set_option maxHeartbeats 8000000 in
theorem l07Median_any (A : Option Addr) (n c : Nat) (xs : List Int) (w : World) (hr : RdL c1 1 w w.heap.size A n c xs) (h0 : 0 < n) (hn : n ≤ 1000) :
    Calls Try.prog 50 #[.slice A n c] w fun e w' => e = .returned (.int .i64 (medI xs)) ∧ Below w.heap.size w w' := by
  obtain ⟨i0, hi, hz0, hz1, hz2⟩ := info_parts Try.infoInt64
  have HL := Lib.hid hr.len
  have HR := Lib.hid hr
  clear hr
  go_enter Try.func50, Try.ntmps50
  go_wp2_with fail
  go_loopw [3, 4] (fun s i wr => ∃ k g c' : Nat, k ≤ n ∧ i = .int .i64 k ∧ s = .slice (some ⟨g, 0, none⟩) k c' ∧ w.heap.size ≤ g ∧ Below w.heap.size w wr ∧ Hid (wr.ownsRow w.heap.size 2 1 (.slice (some ⟨g, 0, none⟩) k c') k ((insN xs k).flatMap c1))) (fun _ i _ => n - (intOf i).toNat)
  case atStart => exact ⟨0, w.heap.size, 0, by omega, rfl, rfl, Nat.le_refl _, (by repeat (first | exact Below.refl _ _ | assumption | refine Below.drew ?_ | refine below_drewN ?_ _ | refine Below.alloc ?_ (by first | omega | (simp <;> omega)) _ | refine Below.setCell ?_ (by first | omega | (simp <;> omega)) _)), lit_none w _ (Nat.le_refl _)⟩
  case round =>
    obtain ⟨k, g, c', hk, rfl, rfl, hg, hb, HO⟩ := hrel
    have hsz := hb.size
    by_cases hlt : k < n
    · obtain ⟨b, off, v, rfl, hbl, hv, q0⟩ := (HR.out.on hb).at1 hlt
      have hil : Hid ((insN xs k).length = k) := insN_len (by rw [HL.out]; exact hk)
      have i1 : (k : Int) < (n : Int) := by omega
      have i2 : (0 : Int) ≤ (k : Int) := by omega
      have HV := Lib.hid hv.out
      have HS := Lib.hid (HR.out.on hb)
      have HQ := Lib.hid q0
      clear hv q0
      go_wp2
      obtain ⟨wo, rfl⟩ : ∃ wo, wo = wr := ⟨_, rfl⟩
      go_loopw [5] (fun q wi => ∃ j : Nat, j ≤ k ∧ q = .int .i64 j ∧ Below wo.heap.size wo wi ∧ Hid (slotR leI (insN xs k) v k = slotR leI (insN xs k) v j)) (fun q _ => (intOf q).toNat)
      case atStart => exact ⟨k, Nat.le_refl _, rfl, Below.refl _ _, rfl⟩
      case round =>
        obtain ⟨j, hj, rfl, hbi, hsl⟩ := hrel
        match j, hj, hsl with
        | 0, hj, hsl =>
          have HP := Lib.hid (insR_of (k := 0) hil.out (hsl.out.trans rfl))
          clear hsl
          go_wp2_with fail
          go_quiet (fail)
          have hbi2 : Below wo.heap.size wo (wr.drewN nq) := below_drewN hbi nq
          generalize wr.drewN nq = wi at *
          have RJ := Lib.hid ((RdL.of_own hil.out HO.out).on hbi2)
          have HO2 := Lib.hid (own_below HO.out hbi2)
          have hcap := RJ.out.cap
          have hcapm := RJ.out.capm
          have HW2 := Lib.hid hbi2
          have zi := hbi2.size
          have q9 : wi.cell? ⟨b, off + k, none⟩ = some (.int .i64 v) := (hbi2.cell (p := ⟨b, off + k, none⟩) hbl).trans HQ.out
          have hbl9 : b < wi.heap.size := by omega
          have HTL : Hid (((insN xs k).take 0).length = 0) := by show _ = _; rw [List.length_take, hil.out]; omega
          clear hbi hbi2
          have s1 : (0 : Int) ≤ (c' : Int) := by omega
          have s2 : 0 ≤ c' := by omega
          try clear q0
          try clear q1
          go_wp2_with fail
          try rw [hjm3]
          go_region_held3 (fun w' => (∀ b o, b < wi.heap.size → w'.cell? ⟨b, o, none⟩ = wi.cell? ⟨b, o, none⟩) ∧ Below wi.heap.size wi w')
            (first | exact sk (Below.refl _ _).drew | (go_split_ands; first | exact sk (below_app ‹_› hbw3 (Below.size ‹_›)) | exact sk (Below.alloc ‹_› (Below.size ‹_›) _) | exact sk (Below.trans ‹_› hbw4)))
            (first | ((refine step_one _ c1_len oneI (by rfl) (.tmp 35) (.tmp 40) 73 (by rfl) wi.heap.size 2 i0 _ Try.underlyingInts hi hz0 hz1 hz2 rfl (by decide) (by decide) A1 0 c1' _ (by rfl) ((own_mono ho1 (Nat.le_refl _)).alloc _) w3.heap.size 1 v (by rfl) (Cell1.new _ _ _) (by omega) (by have := hbw3.size; simp at this ⊢; omega) ?_; intro A2 c2' w4 hw4 hbw4)) | ((refine step_one _ c1_len oneI (by rfl) (.tmp 35) (.tmp 40) 73 (by rfl) wi.heap.size 2 i0 _ Try.underlyingInts hi hz0 hz1 hz2 rfl (by decide) (by decide) A1 0 c1' _ (by rfl) (own_mono ho1 (by simp)) wi.heap.size 1 v (by rfl) (fun j u hu => (hbw3.cell (p := ⟨wi.heap.size, j, none⟩) (by simp)).trans (Cell1.new wi 2 v j u hu)) (by omega) (by have := hbw3.size; simp at this ⊢; omega) ?_; intro A2 c2' w4 hw4 hbw4)) | (go_at_call 75; with_reducible refine (l00Own_any g 0 0 c' ((insN xs k).take 0) _ (by first | exact (RJ.out.sub9 (by omega)).on (Below.refl _ _).drew | exact (RJ.out.sub9 (by omega)).on ((Below.refl _ _).alloc (Nat.le_refl _) _).drew) (by omega)).mono ?_; rintro e w3 ⟨A1, c1', rfl, ho1, hbw3⟩))
          all_goals
            go_split_ands
            have hb4 : Below wi.heap.size wi w4 := ‹_›
            have R4 := Lib.hid (RJ.out.on hb4)
            have O4 := Lib.hid hw4
            have HBT : Below w.heap.size w w4 := below_app (below_app hb HW2.out hsz) hb4 (by omega)
            have zt := HBT.size
            have hdl : ((insN xs k).drop 0).length = k - 0 := by rw [List.length_drop, hil.out]
            have HIN : Hid (insN xs (k + 1) = insR leI (insN xs k) v) := insN_step HV.out
            clear hw4 hb4 hb
            go_wp2_with (at_builtin; with_reducible refine app_moreI _ c1_len oneI rfl (.tmp 42) (.tmp 45) 73 rfl w.heap.size 2 i0 _ Try.underlyingInts hi hz0 hz1 hz2 rfl (by decide) (by decide) A2 (0 + 1) c2' (((insN xs k).take 0) ++ [v]) rfl (own_mono O4.out (by omega)) g 0 k _ ((insN xs k).drop 0) rfl ?_ ?_ (k + 1) (by omega) ?_ ?_ ?_)
            all_goals first | omega | (intro A3 c3 w5 (ho5 : (World.ownsRow _ _ _ _ _ _ _)) hb5) | (rw [hdl]; done) | (rw [hdl]; omega) | (intro j9 u9 hu9; have h8 := cellsI2 R4.out (Below.refl _ _) (show 0 ≤ k by omega) j9 u9 hu9; simpa using h8) | (simp; omega) | (simp; done)
            obtain ⟨g5, rfl, hg50, hg51⟩ := own_at ho5 (by omega)
            have O5 := Lib.hid ho5
            have HB5 := HBT.trans hb5
            clear ho5 hb5
            go_wp2
            exact ⟨⟨k + 1, g5, c3, by omega, by go_num, rfl, hg50, HB5, by show World.ownsRow _ _ _ _ _ _ _; rw [HIN.out, HP.out]; exact own_eqI O5.out (by simp)⟩, by simp [intOf]; omega⟩
        | j + 1, hj, hsl =>
          obtain ⟨b', off', y, e0, hbl2, hy, q1⟩ := (RdL.of_own hil.out HO.out).at1 (show j < k by omega)
          cases e0
          rw [Nat.zero_add] at q1
          have q0 := HQ.out
          have j0 : IntKind.i64.wrap (((j + 1 : Nat) : Int) - 1) = (j : Int) := by rw [IntWalk.i64_in _ (by omega)]; omega
          have j1 : (0 : Int) < ((j + 1 : Nat) : Int) := by omega
          have j2 : (j : Int) < (k : Int) := by omega
          have j3 : (0 : Int) ≤ (j : Int) := by omega
          replace q0 := (hbi.cell (p := ⟨b, off + k, none⟩) hbl).trans q0
          replace q1 := (hbi.cell (p := ⟨g, j, none⟩) hbl2).trans q1
          by_cases hc : v < y
          · have HP := Lib.hid (slotR_no hy.out hc)
            go_wp2_with fail
            go_quiet (fail)
            go_wp2_with fail
            exact ⟨⟨j, by omega, rfl, below_drewN hbi _, hsl.out.trans HP.out⟩, by simp [intOf]⟩
          · have HP := Lib.hid (insR_of hil.out (hsl.out.trans (slotR_yes hy.out (by omega))))
            go_wp2_with fail
            go_quiet (fail)
            clear j0 j1 hsl
            generalize hjm : j + 1 = m at *
            have hjm2 : m ≤ k := by omega
            have hjm3 : (j : Int) + 1 = (m : Int) := by omega
            have s0 : (0 : Int) ≤ (m : Int) := by omega
            have hbi2 : Below wo.heap.size wo (wr.drewN nq) := below_drewN hbi nq
            generalize wr.drewN nq = wi at *
            have RJ := Lib.hid ((RdL.of_own hil.out HO.out).on hbi2)
            have HO2 := Lib.hid (own_below HO.out hbi2)
            have hcap := RJ.out.cap
            have hcapm := RJ.out.capm
            have HW2 := Lib.hid hbi2
            have zi := hbi2.size
            have q9 : wi.cell? ⟨b, off + k, none⟩ = some (.int .i64 v) := (hbi2.cell (p := ⟨b, off + k, none⟩) hbl).trans HQ.out
            have hbl9 : b < wi.heap.size := by omega
            have HTL : Hid (((insN xs k).take m).length = m) := by show _ = _; rw [List.length_take, hil.out]; omega
            clear hbi hbi2
            have s1 : (m : Int) ≤ (c' : Int) := by omega
            have s2 : m ≤ c' := by omega
            try clear q0
            try clear q1
            go_wp2_with fail
            try rw [hjm3]
            go_region_held3 (fun w' => (∀ b o, b < wi.heap.size → w'.cell? ⟨b, o, none⟩ = wi.cell? ⟨b, o, none⟩) ∧ Below wi.heap.size wi w')
              (first | exact sk (Below.refl _ _).drew | (go_split_ands; first | exact sk (below_app ‹_› hbw3 (Below.size ‹_›)) | exact sk (Below.alloc ‹_› (Below.size ‹_›) _) | exact sk (Below.trans ‹_› hbw4)))
              (first | ((refine step_one _ c1_len oneI (by rfl) (.tmp 35) (.tmp 40) 73 (by rfl) wi.heap.size 2 i0 _ Try.underlyingInts hi hz0 hz1 hz2 rfl (by decide) (by decide) A1 m c1' _ (by rfl) ((own_mono ho1 (Nat.le_refl _)).alloc _) w3.heap.size 1 v (by rfl) (Cell1.new _ _ _) (by omega) (by have := hbw3.size; simp at this ⊢; omega) ?_; intro A2 c2' w4 hw4 hbw4)) | ((refine step_one _ c1_len oneI (by rfl) (.tmp 35) (.tmp 40) 73 (by rfl) wi.heap.size 2 i0 _ Try.underlyingInts hi hz0 hz1 hz2 rfl (by decide) (by decide) A1 m c1' _ (by rfl) (own_mono ho1 (by simp)) wi.heap.size 1 v (by rfl) (fun j u hu => (hbw3.cell (p := ⟨wi.heap.size, j, none⟩) (by simp)).trans (Cell1.new wi 2 v j u hu)) (by omega) (by have := hbw3.size; simp at this ⊢; omega) ?_; intro A2 c2' w4 hw4 hbw4)) | (go_at_call 75; with_reducible refine (l00Own_any g 0 m c' ((insN xs k).take m) _ (by first | exact (RJ.out.sub9 (by omega)).on (Below.refl _ _).drew | exact (RJ.out.sub9 (by omega)).on ((Below.refl _ _).alloc (Nat.le_refl _) _).drew) (by omega)).mono ?_; rintro e w3 ⟨A1, c1', rfl, ho1, hbw3⟩))
            all_goals
              go_split_ands
              have hb4 : Below wi.heap.size wi w4 := ‹_›
              have R4 := Lib.hid (RJ.out.on hb4)
              have O4 := Lib.hid hw4
              have HBT : Below w.heap.size w w4 := below_app (below_app hb HW2.out hsz) hb4 (by omega)
              have zt := HBT.size
              have hdl : ((insN xs k).drop m).length = k - m := by rw [List.length_drop, hil.out]
              have HIN : Hid (insN xs (k + 1) = insR leI (insN xs k) v) := insN_step HV.out
              clear hw4 hb4 hb
              by_cases hcc : c' = m
              · have hkm : k = m := by omega
                subst hcc
                subst hkm
                go_wp2_with (at_builtin; with_reducible refine app_moreI _ c1_len oneI rfl (.tmp 42) (.tmp 45) 73 rfl w.heap.size 2 i0 _ Try.underlyingInts hi hz0 hz1 hz2 rfl (by decide) (by decide) A2 (k + 1) c2' (((insN xs k).take k) ++ [v]) rfl (own_mono O4.out (by omega)) g 0 0 _ ((insN xs k).drop k) rfl ?_ ?_ (k + 1) (by omega) ?_ ?_ ?_)
                all_goals first | omega | (intro A3 c3 w5 (ho5 : (World.ownsRow _ _ _ _ _ _ _)) hb5) | (rw [hdl]; done) | (rw [hdl]; omega) | (intro j9 u9 hu9; rw [List.drop_of_length_le (by rw [hil.out]; omega)] at hu9; simp at hu9) | (simp; omega) | (simp; done)
                obtain ⟨g5, rfl, hg50, hg51⟩ := own_at ho5 (by omega)
                have O5 := Lib.hid ho5
                have HB5 := HBT.trans hb5
                clear ho5 hb5
                go_wp2
                exact ⟨⟨k + 1, g5, c3, by omega, by go_num, rfl, hg50, HB5, by show World.ownsRow _ _ _ _ _ _ _; rw [HIN.out, HP.out]; exact own_eqI O5.out (by simp)⟩, by simp [intOf]; omega⟩
              · have hcc9 := hcc
                go_wp2_with (at_builtin; with_reducible refine app_moreI _ c1_len oneI rfl (.tmp 42) (.tmp 45) 73 rfl w.heap.size 2 i0 _ Try.underlyingInts hi hz0 hz1 hz2 rfl (by decide) (by decide) A2 (m + 1) c2' (((insN xs k).take m) ++ [v]) rfl (own_mono O4.out (by omega)) g m (k - m) _ ((insN xs k).drop m) rfl ?_ ?_ (k + 1) (by omega) ?_ ?_ ?_)
                all_goals first | omega | (intro A3 c3 w5 (ho5 : (World.ownsRow _ _ _ _ _ _ _)) hb5) | (rw [hdl]; done) | (rw [hdl]; omega) | (intro j9 u9 hu9; have h8 := cellsI2 R4.out (Below.refl _ _) (show m ≤ k by omega) j9 u9 hu9; simpa using h8) | (simp; omega) | (simp; done)
                obtain ⟨g5, rfl, hg50, hg51⟩ := own_at ho5 (by omega)
                have O5 := Lib.hid ho5
                have HB5 := HBT.trans hb5
                clear ho5 hb5
                go_wp2
                exact ⟨⟨k + 1, g5, c3, by omega, by go_num, rfl, hg50, HB5, by show World.ownsRow _ _ _ _ _ _ _; rw [HIN.out, HP.out]; exact own_eqI O5.out (by simp)⟩, by simp [intOf]; omega⟩
    · have hkn : k = n := by omega
      subst hkn
      have hr2 := RdL.of_own (by rw [insN_all HL.out, sortI_len]; exact HL.out) HO.out
      obtain ⟨b, off, y, he, hbl, hy, q0⟩ := hr2.at1 (show (k - 1) / 2 < k by omega)
      cases he
      rw [insN_all HL.out] at hy
      have HM : Hid (medI xs = y) := by show _ = _; unfold medI; rw [HL.out]; exact getD_of hy.out
      obtain ⟨m, hm⟩ : ∃ m, (k - 1) / 2 = m := ⟨_, rfl⟩
      rw [hm, Nat.zero_add] at q0
      have i1 : IntKind.i64.wrap ((k : Int) - 1) = ((k - 1 : Nat) : Int) := by rw [IntWalk.i64_in _ (by omega)]; omega
      have i2 : ((k - 1 : Nat) : Int).tdiv 2 = (m : Int) := by rw [Int.tdiv_eq_ediv_of_nonneg (by omega)]; omega
      have i3 : IntKind.i64.wrap (m : Int) = (m : Int) := IntWalk.i64_in _ (by omega)
      have i4 : (m : Int) < (k : Int) := by omega
      have i5 : (0 : Int) ≤ (m : Int) := by omega
      have HB := Lib.hid hb
      clear hr2 hb hy
      go_wp2
      go_ret
      exact ⟨ret_int HM.out.symm, HB.out⟩
end Go.Proofs.Ytbfilhpgekgmbaa
