/- The path of least cost: the reference's. -/
import Derived.Test.YtfbcnojnpjbghaaTp
import Derived.Test.YtfbcnojnpjbghaaEs
import Derived.Test.YtfbcnojnpjbghaaPk
import Derived.Test.YtfbcnojnpjbghaaFlPair
namespace Go.Proofs.Ytfbcnojnpjbghaa
open Go.ChangeShapes Go.WideShapes Go.ChangeAt Go.RowKit
set_option linter.unusedVariables false
set_option linter.unusedSimpArgs false
/-- A row of one's own with another row behind it. -/
theorem app_cat {P : Program} (w : World) {ops : Array Oper} {rest : List Oper} {o : Oper} {a : Act} {Q : Exit → Act → World → Prop} {α : Type} {f : α → List Value} {S Y : Nat} (hf : ∀ x, (f x).length = S) (hone : ∀ x, ∀ u ∈ f x, u.oneCell' = true) (hg : o.guard = none) (s x : Operand) (t : TypeId)
    (ho : o.op = .call { callee := .builtin .append, args := #[s, x], argTypes := #[t, t] }) (base : Nat) (e : TypeId) (i : TypeInfo) (z : Value)
    (h1 : P.underlying t = some (.slice e)) (hi : P.info? e = some i) (hz : i.zero = some z) (hs : i.size = S) (hy : i.bytes = Y) (hzs : z.cells.size = S) (hS : 0 < S) (hY : Y ≤ 4096)
    (A0 : Option Addr) (k c0 : Nat) (zs : List α) (hv : a.eval s = .slice A0 k c0) (hown : w.ownsRow base e S (.slice A0 k c0) k (zs.flatMap f))
    (A : Option Addr) (n c B : Nat) (xs : List α) (hx : a.eval x = .slice A n c) (hr : RdL f S w B A n c xs) (hpos : 0 < n) (hn : k + n ≤ 1048576) (hbase : base ≤ w.heap.size)
    (K : ∀ A' c' w', w'.ownsRow base e S (.slice A' (k + n) c') (k + n) ((zs ++ xs).flatMap f) → Below base w w' → wpList P ops Q rest (a.put o.dst (.slice A' (k + n) c')) w') :
    wpList P ops Q (o :: rest) a w := by
  have hb : (k + n) * Y ≤ 140737488355328 := Nat.le_trans (Nat.mul_le_mul hn hY) (by decide)
  obtain ⟨hl, _, _, _, h4⟩ := hr
  obtain ⟨b, off, rfl, hbB, hc⟩ := h4 hpos
  refine wpList_append_own w hg s x t ho base e i z S Y h1 hi hz hs hy hzs hS (.slice A0 k c0) k (zs.flatMap f) hv hown ⟨b, off, none⟩ n c (xs.flatMap f) hx (by rw [flat_len hf, hl]) ?_ ?_ (by unfold maxLen; omega) hb hbase ?_
  · intro j u hu
    have h := hc j u hu
    unfold Addr.add
    split
    · rename_i h0; subst h0; exact h
    · exact h
  · intro u hu
    obtain ⟨y, _, hy2⟩ := List.mem_flatMap.1 hu
    exact hone y u hy2
  · intro v' w' hown' hgrow _
    rw [← List.flatMap_append] at hown'
    obtain ⟨A', c'', rfl, _, _⟩ := own_form hown'
    exact K A' c'' w' hown' ((Below.refl _ _).grown hgrow hbase (fun k hk => (hown.lt k hk).1))
theorem cell_on3 {B : Nat} {w w' : World} {b o : Nat} {v : Value} (hb : Below B w w') (hB : b < B) (h : w.cell? ⟨b, o, none⟩ = some v) : w'.cell? ⟨b, o, none⟩ = some v := (hb.cell (p := ⟨b, o, none⟩) hB).trans h
section
variable {a b : List T3} {band : Int} (ha : a.all featOk = true) (hb : b.all featOk = true) (la : a.length ≤ 72) (lb : b.length ≤ 72) (h0 : 0 ≤ band)
include ha hb la lb h0
/-- The three ways of a step back. -/
theorem stp_cases {inf : Int} (hinf : 100000 ≤ inf) {i j : Nat} (hi : i < a.length) (hj : j < b.length) (hw : away i j ≤ band) (hp : ¬ (i = 0 ∧ j = 0)) :
    (0 < i ∧ 0 < j ∧ tb inf a b band (i - 1) (j - 1) = tb inf a b band i j - cst a b i j ∧ stp (tb 100000 a b band) (cst a b) (i, j) = (i - 1, j - 1) ∧ away (i - 1) (j - 1) ≤ band) ∨
    (0 < i ∧ (0 < j → tb inf a b band (i - 1) (j - 1) ≠ tb inf a b band i j - cst a b i j) ∧ tb inf a b band (i - 1) j = tb inf a b band i j - cst a b i j ∧ stp (tb 100000 a b band) (cst a b) (i, j) = (i - 1, j) ∧ away (i - 1) j ≤ band) ∨
    (0 < j ∧ (0 < i → tb inf a b band (i - 1) (j - 1) ≠ tb inf a b band i j - cst a b i j) ∧ (0 < i → tb inf a b band (i - 1) j ≠ tb inf a b band i j - cst a b i j) ∧ tb inf a b band i (j - 1) = tb inf a b band i j - cst a b i j ∧ stp (tb 100000 a b band) (cst a b) (i, j) = (i, j - 1) ∧ away i (j - 1) ≤ band) := by
  obtain ⟨k1, k2, k3, k4⟩ := tb_ahead ha hb la lb h0 hinf hi hj hw hp
  obtain ⟨i', j', e1, _, _, hlt, hw', _, _⟩ := stp_in ha hb la lb h0 hinf hi hj hw hp
  have e2 := stp_same ha hb la lb h0 hinf hi hj hw hp
  rw [← e2]
  by_cases c1 : 0 < i ∧ 0 < j ∧ tb inf a b band (i - 1) (j - 1) = tb inf a b band i j - cst a b i j
  · left
    have e3 : stp (tb inf a b band) (cst a b) (i, j) = (i - 1, j - 1) := by unfold stp; simp only; rw [if_pos c1]
    rw [e1] at e3; cases e3
    exact ⟨c1.1, c1.2.1, c1.2.2, e1, hw'⟩
  · right
    by_cases c2 : 0 < i ∧ tb inf a b band (i - 1) j = tb inf a b band i j - cst a b i j
    · left
      have e3 : stp (tb inf a b band) (cst a b) (i, j) = (i - 1, j) := by unfold stp; simp only; rw [if_neg c1, if_pos c2]
      rw [e1] at e3; cases e3
      exact ⟨c2.1, fun hj0 e => c1 ⟨c2.1, hj0, e⟩, c2.2, e1, hw'⟩
    · right
      have e3 : stp (tb inf a b band) (cst a b) (i, j) = (i, j - 1) := by unfold stp; simp only; rw [if_neg c1, if_neg c2]
      rw [e1] at e3; cases e3
      have hj0 : 0 < j := by omega
      refine ⟨hj0, fun hi0 e => c1 ⟨hi0, hj0, e⟩, fun hi0 e => c2 ⟨hi0, e⟩, ?_, e1, hw'⟩
      rcases Nat.eq_zero_or_pos i with h | h
      · subst h; rw [lbF_b inf _ hj0] at k1; omega
      · rw [lbF_d inf _ h hj0] at k1
        have d1 : tb inf a b band (i - 1) (j - 1) ≠ tb inf a b band i j - cst a b i j := fun e => c1 ⟨h, hj0, e⟩
        have d2 : tb inf a b band (i - 1) j ≠ tb inf a b band i j - cst a b i j := fun e => c2 ⟨h, e⟩
        omega
end
theorem bkI_lt {a b : List T3} {band : Int} {l : List P2} {f i j : Nat} (h : bkI a b band l f i j) (hp : ¬ (i = 0 ∧ j = 0)) : l.length + 1 ≤ a.length + b.length + 1 := by
  have h1 := h.1
  have h2 := (bkL_len a b band).2
  have h3 := trc_step (T := tb 100000 a b band) (C := cst a b) (f := f) (p := (i, j)) hp h.2 rfl
  rw [h3] at h1
  rw [← h1, List.length_append, List.length_cons] at h2; omega
def epL (xs ys : List T3) (band : Int) : List T2 := if elE xs ys band = 0 then pthL xs ys band else []
set_option maxRecDepth 100000 in
set_option maxHeartbeats 8000000 in
theorem l09Trace_any (A B : Option Addr) (n ca m cb : Nat) (xs ys : List T3) (band : Int) (w : World) (hr : RdL c3 3 w w.heap.size A n ca xs) (hr' : RdL c3 3 w w.heap.size B m cb ys)
    (ha : xs.all featOk = true) (hb : ys.all featOk = true) (hn1 : 1 ≤ n) (hn : n ≤ 72) (hm1 : 1 ≤ m) (hm : m ≤ 72) (h0 : 0 ≤ band) (h1 : band ≤ 72) (haw : away (n - 1) (m - 1) ≤ band) :
    Calls Try.prog 59 #[.slice A n ca, .slice B m cb, .int .i64 band] w fun e w' => ∃ A' k c', e = .returned (.slice A' k c') ∧ w'.ownsRow w.heap.size 85 2 (.slice A' k c') k ((pthL xs ys band).flatMap c2) ∧ (pthL xs ys band).length = k ∧ Below w.heap.size w w' := by
  obtain ⟨i0, hi, hz0, hz1, hz2⟩ := info_parts Try.infoPair
  have hl := Lib.hid hr.len
  have hl' := Lib.hid hr'.len
  go_enter Try.func59, Try.ntmps59
  go_wp2_with fail
  with_reducible refine (l09Table_any _ _ _ _ _ _ xs ys band _ hr hr' ha hb hn1 hn hm1 hm h0 h1).mono ?_
  rintro e w1 ⟨rfl, o1, hbw1⟩
  have HT := Lib.hid o1
  have HR := Lib.hid (hr.on hbw1)
  have HR' := Lib.hid (hr'.on hbw1)
  have HA := Lib.hid ha
  have HB := Lib.hid hb
  have HW := Lib.hid haw
  have ta := (o1.lt w.heap.size rfl).2
  clear o1 hr hr' ha hb haw
  obtain ⟨N, hN⟩ : ∃ N : Nat, Hid (N = n * m) := ⟨_, rfl⟩
  have hNb : N ≤ 5184 := by rw [hN.out]; exact Nat.le_trans (Nat.mul_le_mul hn hm) (by decide)
  rw [← hN.out] at HT ⊢
  go_wp2
  go_loopw [9, 10, 11] (fun qi qj q wr => ∃ (i j k c' f : Nat) (A' : Option Addr) (l : List P2), i < n ∧ j < m ∧ 1 ≤ k ∧ qi = .int .i64 i ∧ qj = .int .i64 j ∧ q = .slice A' k c' ∧ Below w1.heap.size w1 wr ∧ wr.ownsRow w1.heap.size 85 2 (.slice A' k c') k ((l.reverse.map c2n).flatMap c2) ∧
    Hid (l.length = k ∧ bkI xs ys band l f i j ∧ away i j ≤ band)) (fun qi qj _ _ => (intOf qi + intOf qj).toNat)
  case atStart =>
    refine ⟨n - 1, m - 1, 1, 1, n + m, some ⟨w1.heap.size, 0, none⟩, [(n - 1, m - 1)], by omega, by omega, by omega, by go_num, by go_num, rfl, (by repeat (first | exact Below.refl _ _ | assumption | refine Below.drew ?_ | refine below_drewN ?_ _ | refine Below.alloc ?_ (by first | omega | (simp <;> omega)) _ | refine Below.setCell ?_ (by first | omega | (simp <;> omega)) _)), ?_, ⟨rfl, ?_, HW.out⟩⟩
    · have e1 : ((n : Int) - 1) = ((n - 1 : Nat) : Int) := by omega
      have e2 : ((m : Int) - 1) = ((m - 1 : Nat) : Int) := by omega
      simp only [e1, e2]
      exact World.ownsRow_lit (base := w1.heap.size) (e := 85) (size := 2) w1 #[.int .i64 ((n - 1 : Nat) : Int), .int .i64 ((m - 1 : Nat) : Int)] 1 (Nat.le_refl _) (by simp [maxLen]) rfl
    · have := bkI_start xs ys band; rwa [hl.out, hl'.out] at this
  case round =>
    rename World => wr
    obtain ⟨i, j, k, c', f, A', l, hin, hjm, hk1, rfl, rfl, rfl, hb, hw, hI⟩ := hrel
    have hbr := below_on hb hbw1
    have HWr := Lib.hid hw
    clear hw
    by_cases hp : i = 0 ∧ j = 0
    · obtain ⟨rfl, rfl⟩ := hp
      have e := bkI_end hI.out.2.1 ⟨rfl, rfl⟩
      have e2 : pthL xs ys band = l.reverse.map c2n := by unfold pthL; rw [e]
      have E2 := Lib.hid e2
      clear e2 e
      go_wp2
      go_ret
      rw [E2.out]
      exact ⟨A', k, c', rfl, own_mono HWr.out hbw1.size, by rw [List.length_map, List.length_reverse]; exact hI.out.1, hbr⟩
    · have hln := bkI_lt hI.out.2.1 hp
      rw [hI.out.1, hl.out, hl'.out] at hln
      have S3 := Lib.hid (stp_cases HA.out HB.out (by rw [hl.out]; exact hn) (by rw [hl'.out]; exact hm) h0 (inf := 1000000000) (by omega) (show i < xs.length by rw [hl.out]; exact hin) (show j < ys.length by rw [hl'.out]; exact hjm) hI.out.2.2 hp)
      have HP := Lib.hid hp
      obtain ⟨b0, off0, x, y, d, rfl, hbl, hx, q0, q1, q2⟩ := (HR.out.below hb).at3 hin
      obtain ⟨b1, off1, x', y', d', rfl, hbl', hx', p0, p1, p2⟩ := (HR'.out.below hb).at3 hjm
      have V1 : Hid (featB x y d = true) := all_at (p := featOk) (x := (x, y, d)) HA.out hx.out
      have V2 : Hid (featB x' y' d' = true) := all_at (p := featOk) (x := (x', y', d')) HB.out hx'.out
      have HC : Hid (cst xs ys i j = costF (x, y, d) (x', y', d')) := by unfold Hid cst; rw [getD_of hx.out, getD_of hx'.out]
      have cb := cst_bd HA.out HB.out (show i < xs.length by rw [hl.out]; exact hin) (show j < ys.length by rw [hl'.out]; exact hjm)
      rw [HC.out] at cb S3
      obtain ⟨cv, hcv⟩ : ∃ cv, Hid (costF (x, y, d) (x', y', d') = cv) := ⟨_, rfl⟩
      rw [hcv.out] at cb S3
      have tbd := tb_small HA.out HB.out (by rw [hl.out]; exact hn) (by rw [hl'.out]; exact hm) h0 (inf := 1000000000) (by omega) (show i < xs.length by rw [hl.out]; exact hin) (show j < ys.length by rw [hl'.out]; exact hjm) hI.out.2.2
      have t0 : 0 ≤ tb 1000000000 xs ys band i j ∧ tb 1000000000 xs ys band i j ≤ 82656 := by rw [tbd.1]; exact tbd.2
      obtain ⟨tv, htv⟩ : ∃ tv, Hid (tb 1000000000 xs ys band i j = tv) := ⟨_, rfl⟩
      rw [htv.out] at t0 S3
      clear tbd
      have TC := Lib.hid (fun (r s : Nat) (hs : s < m) (hrs : r * m + s < N) => cell_on3 hb (ta) (tab_cell (F := tb 1000000000 xs ys band) (m := m) (q := N) (p := r * m + s) (by simpa using HT.out) (Nat.le_refl _) (tl_at _ hs hrs)))
      have him : i * m + j < N := by
        rw [hN.out]
        have := Nat.mul_le_mul_right m (show i + 1 ≤ n by omega)
        rw [Nat.add_mul, Nat.one_mul] at this; omega
      have tc0 := TC.out i j hjm him
      rw [htv.out] at tc0
      obtain ⟨im, him2⟩ : ∃ im : Nat, Hid (im = i * m) := ⟨_, rfl⟩
      rw [← him2.out] at him tc0
      have o4 : (i : Int) * (m : Int) = (im : Int) := by rw [him2.out]; push_cast; rfl
      have iml : im ≤ 5184 := by omega
      have e1i : (i : Int) < (n : Int) := by omega
      have e2i : (0 : Int) ≤ (i : Int) := by omega
      have e3i : (j : Int) < (m : Int) := by omega
      have e4i : (0 : Int) ≤ (j : Int) := by omega
      have o1 : IntKind.i64.wrap (im : Int) = (im : Int) := IntWalk.i64_in _ (by omega)
      have o2 : IntKind.i64.wrap ((im : Int) + (j : Int)) = (im : Int) + (j : Int) := IntWalk.i64_in _ (by omega)
      have o3 : IntKind.i64.wrap (tv - cv) = tv - cv := IntWalk.i64_in _ (by omega)
      have j5 : (0 : Int) ≤ (im : Int) + (j : Int) := by omega
      have j6 : (im : Int) + (j : Int) < (N : Int) := by omega
      have j7 : ((im : Int) + (j : Int)).toNat = im + j := by omega
      rcases S3.out with ⟨ki, kj, KD, KS, KW⟩ | ⟨ki, KD, KU, KS, KW⟩ | ⟨kj, KD, KU, KL, KS, KW⟩
      · have ci : (0 : Int) < (i : Int) := by omega
        obtain ⟨pm, hpm⟩ : ∃ pm : Nat, Hid (pm = (i - 1) * m) := ⟨_, rfl⟩
        have hpb : pm + m ≤ im := by rw [hpm.out, him2.out, Nat.sub_mul, Nat.one_mul]; have := Nat.mul_le_mul_right m (show 1 ≤ i by omega); omega
        have s1 : IntKind.i64.wrap ((i : Int) - 1) = (i : Int) - 1 := IntWalk.i64_in _ (by omega)
        have s2 : ((i : Int) - 1) * (m : Int) = (pm : Int) := by rw [hpm.out, show ((i : Int) - 1) = ((i - 1 : Nat) : Int) by omega]; push_cast; rfl
        have s3 : IntKind.i64.wrap (pm : Int) = (pm : Int) := IntWalk.i64_in _ (by omega)
        have s4 : IntKind.i64.wrap ((pm : Int) + (j : Int)) = (pm : Int) + (j : Int) := IntWalk.i64_in _ (by omega)
        have cj : (0 : Int) < (j : Int) := by omega
        have t1 : IntKind.i64.wrap ((j : Int) - 1) = (j : Int) - 1 := IntWalk.i64_in _ (by omega)
        have s5 : IntKind.i64.wrap ((pm : Int) + (j : Int) - 1) = (pm : Int) + (j : Int) - 1 := IntWalk.i64_in _ (by omega)
        have s6 : (0 : Int) ≤ (pm : Int) + (j : Int) - 1 := by omega
        have s7 : (pm : Int) + (j : Int) - 1 < (N : Int) := by omega
        have s8 : ((pm : Int) + (j : Int) - 1).toNat = pm + j - 1 := by omega
        have tcd := TC.out (i - 1) (j - 1) (by omega) (by rw [← hpm.out]; omega)
        rw [← hpm.out, show pm + (j - 1) = pm + j - 1 by omega] at tcd
        rw [KD] at tcd
        have HST := Lib.hid KS
        have HAW := Lib.hid KW
        clear KS KW
        have hb0 := Nat.lt_of_lt_of_le hbl hb.size
        have hb1 := Nat.lt_of_lt_of_le hbl' hb.size
        have hb2 := Nat.lt_of_lt_of_le ta hb.size
        go_wp2_with fail
        go_region_held3 (fun w' => (∀ b o, b < wr.heap.size → w'.cell? ⟨b, o, none⟩ = wr.cell? ⟨b, o, none⟩) ∧ Below wr.heap.size wr w') (first | exact sk (Below.refl _ _).drew | (go_split_ands; exact sk (below_app ‹_› hbw2 (Below.size ‹_›)))) (first | (go_at_call 82; with_reducible refine (l09Cost_any x y d x' y' d' _ V1.out V2.out).mono ?_; rintro e w2 ⟨rfl, hbw2⟩; rw [hcv.out]))
        go_split_ands
        have hbx : Below wr.heap.size wr w2 := below_app (Below.refl _ _).drew hbw2 (Nat.le_refl _)
        have HW2 := Lib.hid (own_below HWr.out hbx)
        have hbz : Below w1.heap.size w1 w2 := below_app hb hbx hb.size
        have hsz := hbz.size
        have hb9 := Nat.lt_of_lt_of_le hb2 hbx.size
        clear o1 o2 o3 o4 j5 j6 j7 q0 q1 q2 p0 p1 p2 tc0 hbw2
        go_wp2_with (at_builtin; with_reducible refine app_cat _ c2_len one2 rfl (.tmp 100) (.tmp 101) 42 rfl w1.heap.size 85 i0 _ Try.underlying42 hi hz0 hz1 hz2 rfl (by decide) (by decide) (some ⟨w2.heap.size, 0, none⟩) 1 1 [(((i : Int) - 1), ((j : Int) - 1))] rfl ?_ A' k c' _ (l.reverse.map c2n) rfl (RdL.of_own (by rw [List.length_map, List.length_reverse]; exact hI.out.1) (HW2.out.alloc _)) (by omega) (by omega) ?_ ?_)
        · simpa [c2] using World.ownsRow_lit (base := w1.heap.size) (e := 85) (size := 2) w2 #[.int .i64 ((i : Int) - 1), .int .i64 ((j : Int) - 1)] 1 hsz (by simp [maxLen]) rfl
        · simp; omega
        · intro A2 c2' w4 hw4 hbw4
          replace hw4 := Lib.hid hw4
          have hb4 : Below w1.heap.size w1 w4 := (hbz.alloc hsz _).trans hbw4
          clear hbw4 hbz HW2
          go_wp2
          refine ⟨⟨(i - 1), (j - 1), 1 + k, c2', f - 1, A2, l ++ [((i - 1), (j - 1))], by omega, by omega, by omega, by go_num, by go_num, rfl, hb4, ?_, ⟨by rw [List.length_append, hI.out.1]; simp; omega, bkI_step hI.out.2.1 HP.out HST.out (by omega), HAW.out⟩⟩, by simp [intOf]; omega⟩
          rw [rev_snoc, show c2n ((i - 1), (j - 1)) = (((i : Int) - 1), ((j : Int) - 1)) by unfold c2n; simp <;> omega]
          simpa using hw4.out
      · by_cases kj : 0 < j
        · replace KD := KD kj
          have ci : (0 : Int) < (i : Int) := by omega
          obtain ⟨pm, hpm⟩ : ∃ pm : Nat, Hid (pm = (i - 1) * m) := ⟨_, rfl⟩
          have hpb : pm + m ≤ im := by rw [hpm.out, him2.out, Nat.sub_mul, Nat.one_mul]; have := Nat.mul_le_mul_right m (show 1 ≤ i by omega); omega
          have s1 : IntKind.i64.wrap ((i : Int) - 1) = (i : Int) - 1 := IntWalk.i64_in _ (by omega)
          have s2 : ((i : Int) - 1) * (m : Int) = (pm : Int) := by rw [hpm.out, show ((i : Int) - 1) = ((i - 1 : Nat) : Int) by omega]; push_cast; rfl
          have s3 : IntKind.i64.wrap (pm : Int) = (pm : Int) := IntWalk.i64_in _ (by omega)
          have s4 : IntKind.i64.wrap ((pm : Int) + (j : Int)) = (pm : Int) + (j : Int) := IntWalk.i64_in _ (by omega)
          have cj : (0 : Int) < (j : Int) := by omega
          have t1 : IntKind.i64.wrap ((j : Int) - 1) = (j : Int) - 1 := IntWalk.i64_in _ (by omega)
          have s5 : IntKind.i64.wrap ((pm : Int) + (j : Int) - 1) = (pm : Int) + (j : Int) - 1 := IntWalk.i64_in _ (by omega)
          have s6 : (0 : Int) ≤ (pm : Int) + (j : Int) - 1 := by omega
          have s7 : (pm : Int) + (j : Int) - 1 < (N : Int) := by omega
          have s8 : ((pm : Int) + (j : Int) - 1).toNat = pm + j - 1 := by omega
          have tcd := TC.out (i - 1) (j - 1) (by omega) (by rw [← hpm.out]; omega)
          rw [← hpm.out, show pm + (j - 1) = pm + j - 1 by omega] at tcd
          have s9 : (0 : Int) ≤ (pm : Int) + (j : Int) := by omega
          have s10 : (pm : Int) + (j : Int) < (N : Int) := by omega
          have s11 : ((pm : Int) + (j : Int)).toNat = pm + j := by omega
          have tcu := TC.out (i - 1) j (by omega) (by rw [← hpm.out]; omega)
          rw [← hpm.out] at tcu
          obtain ⟨utcd, hutcd⟩ : ∃ v, Hid (tb 1000000000 xs ys band (i - 1) (j - 1) = v) := ⟨_, rfl⟩
          rw [hutcd.out] at tcd
          have ntcd : (utcd == tv - cv) = false := by have := KD; rw [hutcd.out] at this; simpa using this
          rw [KU] at tcu
          have HST := Lib.hid KS
          have HAW := Lib.hid KW
          clear KS KW
          have hb0 := Nat.lt_of_lt_of_le hbl hb.size
          have hb1 := Nat.lt_of_lt_of_le hbl' hb.size
          have hb2 := Nat.lt_of_lt_of_le ta hb.size
          go_wp2_with fail
          go_region_held3 (fun w' => (∀ b o, b < wr.heap.size → w'.cell? ⟨b, o, none⟩ = wr.cell? ⟨b, o, none⟩) ∧ Below wr.heap.size wr w') (first | exact sk (Below.refl _ _).drew | (go_split_ands; exact sk (below_app ‹_› hbw2 (Below.size ‹_›)))) (first | (go_at_call 82; with_reducible refine (l09Cost_any x y d x' y' d' _ V1.out V2.out).mono ?_; rintro e w2 ⟨rfl, hbw2⟩; rw [hcv.out]))
          go_split_ands
          have hbx : Below wr.heap.size wr w2 := below_app (Below.refl _ _).drew hbw2 (Nat.le_refl _)
          have HW2 := Lib.hid (own_below HWr.out hbx)
          have hbz : Below w1.heap.size w1 w2 := below_app hb hbx hb.size
          have hsz := hbz.size
          have hb9 := Nat.lt_of_lt_of_le hb2 hbx.size
          clear o1 o2 o3 o4 j5 j6 j7 q0 q1 q2 p0 p1 p2 tc0 hbw2
          go_wp2_with (at_builtin; with_reducible refine app_cat _ c2_len one2 rfl (.tmp 100) (.tmp 101) 42 rfl w1.heap.size 85 i0 _ Try.underlying42 hi hz0 hz1 hz2 rfl (by decide) (by decide) (some ⟨w2.heap.size, 0, none⟩) 1 1 [(((i : Int) - 1), (j : Int))] rfl ?_ A' k c' _ (l.reverse.map c2n) rfl (RdL.of_own (by rw [List.length_map, List.length_reverse]; exact hI.out.1) (HW2.out.alloc _)) (by omega) (by omega) ?_ ?_)
          · simpa [c2] using World.ownsRow_lit (base := w1.heap.size) (e := 85) (size := 2) w2 #[.int .i64 ((i : Int) - 1), .int .i64 (j : Int)] 1 hsz (by simp [maxLen]) rfl
          · simp; omega
          · intro A2 c2' w4 hw4 hbw4
            replace hw4 := Lib.hid hw4
            have hb4 : Below w1.heap.size w1 w4 := (hbz.alloc hsz _).trans hbw4
            clear hbw4 hbz HW2
            go_wp2
            refine ⟨⟨(i - 1), j, 1 + k, c2', f - 1, A2, l ++ [((i - 1), j)], by omega, by omega, by omega, by go_num, by go_num, rfl, hb4, ?_, ⟨by rw [List.length_append, hI.out.1]; simp; omega, bkI_step hI.out.2.1 HP.out HST.out (by omega), HAW.out⟩⟩, by simp [intOf]; omega⟩
            rw [rev_snoc, show c2n ((i - 1), j) = (((i : Int) - 1), (j : Int)) by unfold c2n; simp <;> omega]
            simpa using hw4.out
        · clear KD
          have ci : (0 : Int) < (i : Int) := by omega
          obtain ⟨pm, hpm⟩ : ∃ pm : Nat, Hid (pm = (i - 1) * m) := ⟨_, rfl⟩
          have hpb : pm + m ≤ im := by rw [hpm.out, him2.out, Nat.sub_mul, Nat.one_mul]; have := Nat.mul_le_mul_right m (show 1 ≤ i by omega); omega
          have s1 : IntKind.i64.wrap ((i : Int) - 1) = (i : Int) - 1 := IntWalk.i64_in _ (by omega)
          have s2 : ((i : Int) - 1) * (m : Int) = (pm : Int) := by rw [hpm.out, show ((i : Int) - 1) = ((i - 1 : Nat) : Int) by omega]; push_cast; rfl
          have s3 : IntKind.i64.wrap (pm : Int) = (pm : Int) := IntWalk.i64_in _ (by omega)
          have s4 : IntKind.i64.wrap ((pm : Int) + (j : Int)) = (pm : Int) + (j : Int) := IntWalk.i64_in _ (by omega)
          have cj : ¬ (0 : Int) < (j : Int) := by omega
          have cj2 : (j : Int) ≤ 0 := by omega
          have s9 : (0 : Int) ≤ (pm : Int) + (j : Int) := by omega
          have s10 : (pm : Int) + (j : Int) < (N : Int) := by omega
          have s11 : ((pm : Int) + (j : Int)).toNat = pm + j := by omega
          have tcu := TC.out (i - 1) j (by omega) (by rw [← hpm.out]; omega)
          rw [← hpm.out] at tcu
          rw [KU] at tcu
          have HST := Lib.hid KS
          have HAW := Lib.hid KW
          clear KS KW
          have hb0 := Nat.lt_of_lt_of_le hbl hb.size
          have hb1 := Nat.lt_of_lt_of_le hbl' hb.size
          have hb2 := Nat.lt_of_lt_of_le ta hb.size
          go_wp2_with fail
          go_region_held3 (fun w' => (∀ b o, b < wr.heap.size → w'.cell? ⟨b, o, none⟩ = wr.cell? ⟨b, o, none⟩) ∧ Below wr.heap.size wr w') (first | exact sk (Below.refl _ _).drew | (go_split_ands; exact sk (below_app ‹_› hbw2 (Below.size ‹_›)))) (first | (go_at_call 82; with_reducible refine (l09Cost_any x y d x' y' d' _ V1.out V2.out).mono ?_; rintro e w2 ⟨rfl, hbw2⟩; rw [hcv.out]))
          go_split_ands
          have hbx : Below wr.heap.size wr w2 := below_app (Below.refl _ _).drew hbw2 (Nat.le_refl _)
          have HW2 := Lib.hid (own_below HWr.out hbx)
          have hbz : Below w1.heap.size w1 w2 := below_app hb hbx hb.size
          have hsz := hbz.size
          have hb9 := Nat.lt_of_lt_of_le hb2 hbx.size
          clear o1 o2 o3 o4 j5 j6 j7 q0 q1 q2 p0 p1 p2 tc0 hbw2
          go_wp2_with (at_builtin; with_reducible refine app_cat _ c2_len one2 rfl (.tmp 100) (.tmp 101) 42 rfl w1.heap.size 85 i0 _ Try.underlying42 hi hz0 hz1 hz2 rfl (by decide) (by decide) (some ⟨w2.heap.size, 0, none⟩) 1 1 [(((i : Int) - 1), (j : Int))] rfl ?_ A' k c' _ (l.reverse.map c2n) rfl (RdL.of_own (by rw [List.length_map, List.length_reverse]; exact hI.out.1) (HW2.out.alloc _)) (by omega) (by omega) ?_ ?_)
          · simpa [c2] using World.ownsRow_lit (base := w1.heap.size) (e := 85) (size := 2) w2 #[.int .i64 ((i : Int) - 1), .int .i64 (j : Int)] 1 hsz (by simp [maxLen]) rfl
          · simp; omega
          · intro A2 c2' w4 hw4 hbw4
            replace hw4 := Lib.hid hw4
            have hb4 : Below w1.heap.size w1 w4 := (hbz.alloc hsz _).trans hbw4
            clear hbw4 hbz HW2
            go_wp2
            refine ⟨⟨(i - 1), j, 1 + k, c2', f - 1, A2, l ++ [((i - 1), j)], by omega, by omega, by omega, by go_num, by go_num, rfl, hb4, ?_, ⟨by rw [List.length_append, hI.out.1]; simp; omega, bkI_step hI.out.2.1 HP.out HST.out (by omega), HAW.out⟩⟩, by simp [intOf]; omega⟩
            rw [rev_snoc, show c2n ((i - 1), j) = (((i : Int) - 1), (j : Int)) by unfold c2n; simp <;> omega]
            simpa using hw4.out
      · by_cases ki : 0 < i
        · replace KD := KD ki
          replace KU := KU ki
          have ci : (0 : Int) < (i : Int) := by omega
          obtain ⟨pm, hpm⟩ : ∃ pm : Nat, Hid (pm = (i - 1) * m) := ⟨_, rfl⟩
          have hpb : pm + m ≤ im := by rw [hpm.out, him2.out, Nat.sub_mul, Nat.one_mul]; have := Nat.mul_le_mul_right m (show 1 ≤ i by omega); omega
          have s1 : IntKind.i64.wrap ((i : Int) - 1) = (i : Int) - 1 := IntWalk.i64_in _ (by omega)
          have s2 : ((i : Int) - 1) * (m : Int) = (pm : Int) := by rw [hpm.out, show ((i : Int) - 1) = ((i - 1 : Nat) : Int) by omega]; push_cast; rfl
          have s3 : IntKind.i64.wrap (pm : Int) = (pm : Int) := IntWalk.i64_in _ (by omega)
          have s4 : IntKind.i64.wrap ((pm : Int) + (j : Int)) = (pm : Int) + (j : Int) := IntWalk.i64_in _ (by omega)
          have cj : (0 : Int) < (j : Int) := by omega
          have t1 : IntKind.i64.wrap ((j : Int) - 1) = (j : Int) - 1 := IntWalk.i64_in _ (by omega)
          have s5 : IntKind.i64.wrap ((pm : Int) + (j : Int) - 1) = (pm : Int) + (j : Int) - 1 := IntWalk.i64_in _ (by omega)
          have s6 : (0 : Int) ≤ (pm : Int) + (j : Int) - 1 := by omega
          have s7 : (pm : Int) + (j : Int) - 1 < (N : Int) := by omega
          have s8 : ((pm : Int) + (j : Int) - 1).toNat = pm + j - 1 := by omega
          have tcd := TC.out (i - 1) (j - 1) (by omega) (by rw [← hpm.out]; omega)
          rw [← hpm.out, show pm + (j - 1) = pm + j - 1 by omega] at tcd
          have s9 : (0 : Int) ≤ (pm : Int) + (j : Int) := by omega
          have s10 : (pm : Int) + (j : Int) < (N : Int) := by omega
          have s11 : ((pm : Int) + (j : Int)).toNat = pm + j := by omega
          have tcu := TC.out (i - 1) j (by omega) (by rw [← hpm.out]; omega)
          rw [← hpm.out] at tcu
          obtain ⟨utcd, hutcd⟩ : ∃ v, Hid (tb 1000000000 xs ys band (i - 1) (j - 1) = v) := ⟨_, rfl⟩
          rw [hutcd.out] at tcd
          have ntcd : (utcd == tv - cv) = false := by have := KD; rw [hutcd.out] at this; simpa using this
          obtain ⟨utcu, hutcu⟩ : ∃ v, Hid (tb 1000000000 xs ys band (i - 1) j = v) := ⟨_, rfl⟩
          rw [hutcu.out] at tcu
          have ntcu : (utcu == tv - cv) = false := by have := KU; rw [hutcu.out] at this; simpa using this
          have HST := Lib.hid KS
          have HAW := Lib.hid KW
          clear KS KW
          have hb0 := Nat.lt_of_lt_of_le hbl hb.size
          have hb1 := Nat.lt_of_lt_of_le hbl' hb.size
          have hb2 := Nat.lt_of_lt_of_le ta hb.size
          go_wp2_with fail
          go_region_held3 (fun w' => (∀ b o, b < wr.heap.size → w'.cell? ⟨b, o, none⟩ = wr.cell? ⟨b, o, none⟩) ∧ Below wr.heap.size wr w') (first | exact sk (Below.refl _ _).drew | (go_split_ands; exact sk (below_app ‹_› hbw2 (Below.size ‹_›)))) (first | (go_at_call 82; with_reducible refine (l09Cost_any x y d x' y' d' _ V1.out V2.out).mono ?_; rintro e w2 ⟨rfl, hbw2⟩; rw [hcv.out]))
          go_split_ands
          have hbx : Below wr.heap.size wr w2 := below_app (Below.refl _ _).drew hbw2 (Nat.le_refl _)
          have HW2 := Lib.hid (own_below HWr.out hbx)
          have hbz : Below w1.heap.size w1 w2 := below_app hb hbx hb.size
          have hsz := hbz.size
          have hb9 := Nat.lt_of_lt_of_le hb2 hbx.size
          clear o1 o2 o3 o4 j5 j6 j7 q0 q1 q2 p0 p1 p2 tc0 hbw2
          go_wp2_with (at_builtin; with_reducible refine app_cat _ c2_len one2 rfl (.tmp 100) (.tmp 101) 42 rfl w1.heap.size 85 i0 _ Try.underlying42 hi hz0 hz1 hz2 rfl (by decide) (by decide) (some ⟨w2.heap.size, 0, none⟩) 1 1 [((i : Int), ((j : Int) - 1))] rfl ?_ A' k c' _ (l.reverse.map c2n) rfl (RdL.of_own (by rw [List.length_map, List.length_reverse]; exact hI.out.1) (HW2.out.alloc _)) (by omega) (by omega) ?_ ?_)
          · simpa [c2] using World.ownsRow_lit (base := w1.heap.size) (e := 85) (size := 2) w2 #[.int .i64 (i : Int), .int .i64 ((j : Int) - 1)] 1 hsz (by simp [maxLen]) rfl
          · simp; omega
          · intro A2 c2' w4 hw4 hbw4
            replace hw4 := Lib.hid hw4
            have hb4 : Below w1.heap.size w1 w4 := (hbz.alloc hsz _).trans hbw4
            clear hbw4 hbz HW2
            go_wp2
            refine ⟨⟨i, (j - 1), 1 + k, c2', f - 1, A2, l ++ [(i, (j - 1))], by omega, by omega, by omega, by go_num, by go_num, rfl, hb4, ?_, ⟨by rw [List.length_append, hI.out.1]; simp; omega, bkI_step hI.out.2.1 HP.out HST.out (by omega), HAW.out⟩⟩, by simp [intOf]; omega⟩
            rw [rev_snoc, show c2n (i, (j - 1)) = ((i : Int), ((j : Int) - 1)) by unfold c2n; simp <;> omega]
            simpa using hw4.out
        · clear KD KU
          have ci : ¬ (0 : Int) < (i : Int) := by omega
          have ci2 : (i : Int) ≤ 0 := by omega
          have cj : (0 : Int) < (j : Int) := by omega
          have t1 : IntKind.i64.wrap ((j : Int) - 1) = (j : Int) - 1 := IntWalk.i64_in _ (by omega)
          have HST := Lib.hid KS
          have HAW := Lib.hid KW
          clear KS KW
          have hb0 := Nat.lt_of_lt_of_le hbl hb.size
          have hb1 := Nat.lt_of_lt_of_le hbl' hb.size
          have hb2 := Nat.lt_of_lt_of_le ta hb.size
          go_wp2_with fail
          go_region_held3 (fun w' => (∀ b o, b < wr.heap.size → w'.cell? ⟨b, o, none⟩ = wr.cell? ⟨b, o, none⟩) ∧ Below wr.heap.size wr w') (first | exact sk (Below.refl _ _).drew | (go_split_ands; exact sk (below_app ‹_› hbw2 (Below.size ‹_›)))) (first | (go_at_call 82; with_reducible refine (l09Cost_any x y d x' y' d' _ V1.out V2.out).mono ?_; rintro e w2 ⟨rfl, hbw2⟩; rw [hcv.out]))
          go_split_ands
          have hbx : Below wr.heap.size wr w2 := below_app (Below.refl _ _).drew hbw2 (Nat.le_refl _)
          have HW2 := Lib.hid (own_below HWr.out hbx)
          have hbz : Below w1.heap.size w1 w2 := below_app hb hbx hb.size
          have hsz := hbz.size
          have hb9 := Nat.lt_of_lt_of_le hb2 hbx.size
          clear o1 o2 o3 o4 j5 j6 j7 q0 q1 q2 p0 p1 p2 tc0 hbw2
          go_wp2_with (at_builtin; with_reducible refine app_cat _ c2_len one2 rfl (.tmp 100) (.tmp 101) 42 rfl w1.heap.size 85 i0 _ Try.underlying42 hi hz0 hz1 hz2 rfl (by decide) (by decide) (some ⟨w2.heap.size, 0, none⟩) 1 1 [((i : Int), ((j : Int) - 1))] rfl ?_ A' k c' _ (l.reverse.map c2n) rfl (RdL.of_own (by rw [List.length_map, List.length_reverse]; exact hI.out.1) (HW2.out.alloc _)) (by omega) (by omega) ?_ ?_)
          · simpa [c2] using World.ownsRow_lit (base := w1.heap.size) (e := 85) (size := 2) w2 #[.int .i64 (i : Int), .int .i64 ((j : Int) - 1)] 1 hsz (by simp [maxLen]) rfl
          · simp; omega
          · intro A2 c2' w4 hw4 hbw4
            replace hw4 := Lib.hid hw4
            have hb4 : Below w1.heap.size w1 w4 := (hbz.alloc hsz _).trans hbw4
            clear hbw4 hbz HW2
            go_wp2
            refine ⟨⟨i, (j - 1), 1 + k, c2', f - 1, A2, l ++ [(i, (j - 1))], by omega, by omega, by omega, by go_num, by go_num, rfl, hb4, ?_, ⟨by rw [List.length_append, hI.out.1]; simp; omega, bkI_step hI.out.2.1 HP.out HST.out (by omega), HAW.out⟩⟩, by simp [intOf]; omega⟩
            rw [rev_snoc, show c2n (i, (j - 1)) = ((i : Int), ((j : Int) - 1)) by unfold c2n; simp <;> omega]
            simpa using hw4.out
set_option maxRecDepth 100000 in
set_option maxHeartbeats 8000000 in
theorem sPath_any (A B : Option Addr) (n ca m cb : Nat) (xs ys : List T3) (band : Int) (w : World) (hr : RdL c3 3 w w.heap.size A n ca xs) (hr' : RdL c3 3 w w.heap.size B m cb ys) (hn : n ≤ 1048576) (hm : m ≤ 1048576) :
    Calls Try.prog 23 #[.slice A n ca, .slice B m cb, .int .i64 band] w fun e w' => ∃ A' k c', e = .returned (.tuple #[.slice A' k c', .int .i64 (elE xs ys band)]) ∧ w'.ownsRow w.heap.size 85 2 (.slice A' k c') k ((epL xs ys band).flatMap c2) ∧ (epL xs ys band).length = k ∧ k ≤ 1048576 ∧ Below w.heap.size w w' := by
  have hl := Lib.hid hr.len
  have hl' := Lib.hid hr'.len
  by_cases hE : elE xs ys band = 0
  · have HE := Lib.hid hE
    have HR : Hid (epL xs ys band = pthL xs ys band) := if_pos hE
    go_enter Try.func23, Try.ntmps23
    go_wp2_with fail
    with_reducible refine (l09Code_any _ _ _ _ _ _ xs ys band _ hr hr' hn hm).mono ?_
    rintro e w1 ⟨rfl, hbw1⟩
    obtain ⟨f1, f2, f3⟩ := elE_inv HE.out
    rw [hl.out, hl'.out] at f3
    obtain ⟨a0, a1, a2⟩ := featsOk_bd f1
    obtain ⟨b0, b1, b2⟩ := featsOk_bd f2
    rw [hl.out] at a1 a2
    rw [hl'.out] at b1 b2
    obtain ⟨⟨w0, w1'⟩, w2'⟩ := bandOk_iff.1 f3
    clear f1 f2 f3
    have HAW : Hid (away (n - 1) (m - 1) ≤ band) := by unfold Hid away; omega
    go_wp2_with fail
    with_reducible refine (l09Trace_any _ _ _ _ _ _ xs ys band _ (hr.on hbw1) (hr'.on hbw1) a0 b0 (by omega) (by omega) (by omega) (by omega) w0 w1' HAW.out).mono ?_
    rintro e w2 ⟨A', k, c', rfl, o, hk, hbw2⟩
    clear hE a0 b0 hr hr'
    have hkb : k ≤ 1048576 := by have h9 := (bkL_len xs ys band).2; rw [hl.out, hl'.out] at h9; rw [← hk, pthL_len]; omega
    have HO := Lib.hid (own_mono o hbw1.size)
    clear o
    go_wp2
    go_ret2
    rw [HR.out]
    exact ⟨A', k, c', by rw [HE.out]; rfl, HO.out, hk, hkb, below_on hbw2 hbw1⟩
  · have hE' : (elE xs ys band == 0) = false := by simpa using hE
    have hE2 : (elE xs ys band != 0) = true := by simpa using hE
    have HR : Hid (epL xs ys band = []) := if_neg hE
    clear hE
    go_enter Try.func23, Try.ntmps23
    go_wp2_with fail
    with_reducible refine (l09Code_any _ _ _ _ _ _ xs ys band _ hr hr' hn hm).mono ?_
    rintro e w1 ⟨rfl, hbw1⟩
    go_wp2
    go_ret2
    rw [HR.out]
    exact ⟨none, 0, 0, rfl, World.ownsRow_nil _ _ _ _, rfl, by decide, hbw1⟩
end Go.Proofs.Ytfbcnojnpjbghaa
