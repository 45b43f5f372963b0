/- The best part of a sequence: the program's. -/
import Derived.Test.YtfbcnojnpjbghaaPe
import Derived.Test.YtfbcnojnpjbghaaIc
import Derived.Test.YtfbcnojnpjbghaaFlPair
import Derived.Deep.Cut
namespace Go.Proofs.Ytfbcnojnpjbghaa
open Go.ChangeShapes Go.WideShapes Go.ChangeAt Go.RowKit
set_option linter.unusedVariables false
set_option linter.unusedSimpArgs false
def cq (p : Int × Nat) : T2 := (p.1, (p.2 : Int))
def rowQ (F : Nat → Nat → Int × Nat) (k l : Nat) : List T2 := (List.range l).map (fun s => cq (F k s))
theorem rowQ_len (F : Nat → Nat → Int × Nat) (k l : Nat) : (rowQ F k l).length = l := by simp [rowQ]
theorem rowQ_step (F : Nat → Nat → Int × Nat) (k l : Nat) : rowQ F k (l + 1) = rowQ F k l ++ [cq (F k l)] := by simp [rowQ, List.range_succ]
theorem rowQ_at (F : Nat → Nat → Int × Nat) {k l s : Nat} (h : s < l) : (rowQ F k l)[s]? = some (cq (F k s)) := by simp [rowQ, h]
theorem rowQ_cell {w : World} {base e g n l s : Nat} {z : Value} {F : Nat → Nat → Int × Nat} {k : Nat} (h : w.ownsRow base e 2 (.slice (some ⟨g, 0, none⟩) n n) n ((rowQ F k l).flatMap c2 ++ List.replicate ((n - l) * 2) z)) (hl : l ≤ n) (hs : s < l) :
    w.cell? ⟨g, s * 2, none⟩ = some (.int .i64 (F k s).1) ∧ w.cell? ⟨g, s * 2 + 1, none⟩ = some (.int .i64 ((F k s).2 : Nat)) := by
  have f0 := flat_get c2_len (rowQ F k l) s 0 _ (rowQ_at F hs) (by omega)
  have f1 := flat_get c2_len (rowQ F k l) s 1 _ (rowQ_at F hs) (by omega)
  constructor
  · rw [h.cellAt (s * 2) (by omega), List.getElem?_append_left (by rw [flat_len c2_len, rowQ_len]; omega)]
    rw [show s * 2 + 0 = s * 2 by omega] at f0
    rw [f0]; rfl
  · rw [h.cellAt (s * 2 + 1) (by omega), List.getElem?_append_left (by rw [flat_len c2_len, rowQ_len]; omega), f1]; rfl
/-- What a table of parts shows of a row that is done. -/
def QR (w : World) (g m r t : Nat) (F : Nat → Nat → Int × Nat) : Prop := ∃ b, w.cell? ⟨g, r, none⟩ = some (.slice (some ⟨b, 0, none⟩) m m) ∧ ∀ s, s < t → w.cell? ⟨b, s * 2, none⟩ = some (.int .i64 (F r s).1) ∧ w.cell? ⟨b, s * 2 + 1, none⟩ = some (.int .i64 ((F r s).2 : Nat))
theorem pt3_bd {a b : List T3} (ha : a.all featOk = true) (hb : b.all featOk = true) (la : a.length ≤ 72) (lb : b.length ≤ 72) {i j : Nat} (hi : i < a.length) (hj : j < b.length) : -1000 ≤ (ptP (pt a b) i j 3).1 ∧ (ptP (pt a b) i j 3).1 ≤ 100000 := by
  have h := (pt_best ha hb la lb _ i j rfl hi hj).2
  have h2 := cst_bd ha hb hi hj
  have h3 := congrArg Prod.fst (pt_eq a b i j)
  simp only at h3
  show -1000 ≤ (pt3 (pt a b) i j).1 ∧ (pt3 (pt a b) i j).1 ≤ 100000
  omega
theorem ptP_same {F : Nat → Nat → Int × Nat} {i j q : Nat} (h : (q = 0 ∧ ¬ (0 < i ∧ 0 < j)) ∨ (q = 1 ∧ ¬ 0 < i) ∨ (q = 2 ∧ ¬ 0 < j)) : ptP F i j (q + 1) = ptP F i j q := by
  rcases h with ⟨rfl, h⟩ | ⟨rfl, h⟩ | ⟨rfl, h⟩
  · show pt1 F i j = pt0 i j; unfold pt1; rw [if_neg h]
  · show pt2 F i j = pt1 F i j; unfold pt2; rw [if_neg h]
  · show pt3 F i j = pt2 F i j; unfold pt3; rw [if_neg h]
theorem ptP_step {F : Nat → Nat → Int × Nat} {i j q ii jj : Nat} (h : (q = 0 ∧ 0 < i ∧ 0 < j ∧ ii = i - 1 ∧ jj = j - 1) ∨ (q = 1 ∧ 0 < i ∧ ii = i - 1 ∧ jj = j) ∨ (q = 2 ∧ 0 < j ∧ ii = i ∧ jj = j - 1)) : ptP F i j (q + 1) = bst (F ii jj) (ptP F i j q) := by
  rcases h with ⟨rfl, h1, h2, e1, e2⟩ | ⟨rfl, h, e1, e2⟩ | ⟨rfl, h, e1, e2⟩ <;> rw [e1, e2]
  · show pt1 F i j = _; unfold pt1; rw [if_pos ⟨h1, h2⟩]; rfl
  · show pt2 F i j = _; unfold pt2; rw [if_pos h]; rfl
  · show pt3 F i j = _; unfold pt3; rw [if_pos h]; rfl
theorem better_any (a c : Int) (f g : Nat) (w : World) : Calls Try.prog 46 #[.agg #[.int .i64 a, .int .i64 f], .agg #[.int .i64 c, .int .i64 g]] w fun e w' => e = .returned (.bool (bet (a, f) (c, g))) ∧ Below w.heap.size w w' := by
  by_cases h1 : a < c
  · have H : Hid (bet (a, f) (c, g) = true) := by unfold Hid bet; simp [h1]
    go_enter Try.func46, Try.ntmps46
    go_wp2
    go_ret
    exact ⟨ret_bool H.out.symm, (by repeat (first | exact Below.refl _ _ | assumption | refine Below.drew ?_ | refine below_drewN ?_ _ | refine Below.alloc ?_ (by first | omega | (simp <;> omega)) _ | refine Below.setCell ?_ (by first | omega | (simp <;> omega)) _))⟩
  · by_cases h2 : a = c
    · subst h2
      by_cases h3 : g < f
      · have H : Hid (bet (a, f) (a, g) = true) := by unfold Hid bet; simp [h3]
        go_enter Try.func46, Try.ntmps46
        go_wp2
        go_ret
        exact ⟨ret_bool H.out.symm, (by repeat (first | exact Below.refl _ _ | assumption | refine Below.drew ?_ | refine below_drewN ?_ _ | refine Below.alloc ?_ (by first | omega | (simp <;> omega)) _ | refine Below.setCell ?_ (by first | omega | (simp <;> omega)) _))⟩
      · have H : Hid (bet (a, f) (a, g) = false) := by unfold Hid bet; simp; omega
        go_enter Try.func46, Try.ntmps46
        go_wp2
        go_ret
        exact ⟨ret_bool H.out.symm, (by repeat (first | exact Below.refl _ _ | assumption | refine Below.drew ?_ | refine below_drewN ?_ _ | refine Below.alloc ?_ (by first | omega | (simp <;> omega)) _ | refine Below.setCell ?_ (by first | omega | (simp <;> omega)) _))⟩
    · have H : Hid (bet (a, f) (c, g) = false) := by unfold Hid bet; simp [h1, h2]
      have h4 : (a == c) = false := by simpa using h2
      go_enter Try.func46, Try.ntmps46
      go_wp2
      go_ret
      exact ⟨ret_bool H.out.symm, (by repeat (first | exact Below.refl _ _ | assumption | refine Below.drew ?_ | refine below_drewN ?_ _ | refine Below.alloc ?_ (by first | omega | (simp <;> omega)) _ | refine Below.setCell ?_ (by first | omega | (simp <;> omega)) _))⟩
theorem Try.infoPart : (Try.prog.info? 70).map (fun i => (i.zero, i.size, i.bytes)) = some (some (.agg #[.int .i64 0, .int .i64 0]), 2, 16) := by kernel_rfl
theorem Try.infoParts : (Try.prog.info? 68).map (fun i => (i.zero, i.size, i.bytes)) = some (some (.slice none 0 0), 1, 24) := by kernel_rfl
set_option maxRecDepth 100000 in
set_option maxHeartbeats 40000000 in
theorem iPart_any (A B : Option Addr) (n ca m cb : Nat) (xs ys : List T3) (w : World) (hr : RdL c3 3 w w.heap.size A n ca xs) (hr' : RdL c3 3 w w.heap.size B m cb ys) (hn : n ≤ 1048576) (hm : m ≤ 1048576) :
    Calls Try.prog 13 #[.slice A n ca, .slice B m cb] w fun e w' => e = .returned (.tuple #[.int .i64 (peR xs ys).1, .int .i64 ((peR xs ys).2.1 : Nat), .int .i64 ((peR xs ys).2.2 : Nat), .int .i64 (peE xs ys)]) ∧ Below w.heap.size w w' := by
  obtain ⟨i0, hi, hz0, hz1, hz2⟩ := info_parts Try.infoPart
  obtain ⟨i1, gi, gz0, gz1, gz2⟩ := info_parts Try.infoParts
  have k0 : ∀ w, (Instr.index 72 steps3 (.int .i64 0)).run Try.prog w = .ok (.agg #[.int .i64 1, .int .i64 1]) w := fun _ => by kernel_rfl
  have k1 : ∀ w, (Instr.index 72 steps3 (.int .i64 1)).run Try.prog w = .ok (.agg #[.int .i64 1, .int .i64 0]) w := fun _ => by kernel_rfl
  have k2 : ∀ w, (Instr.index 72 steps3 (.int .i64 2)).run Try.prog w = .ok (.agg #[.int .i64 0, .int .i64 1]) w := fun _ => by kernel_rfl
  have hl := Lib.hid hr.len
  have hl' := Lib.hid hr'.len
  cases h1 : featsOk 72 xs with
  | false =>
    have F := Lib.hid (pe_bad (xs := xs) (ys := ys) (by rw [h1]; rfl))
    clear k0 k1 k2
    go_enter Try.func13, Try.ntmps13
    go_wp2_with fail
    with_reducible refine (iValidSeq_any _ _ _ xs _ hr hn).mono ?_
    rintro e w1 ⟨rfl, hbw1⟩
    go_wp2
    rw [F.out.1, F.out.2]
    exact bodyPost_ret (v := .tuple #[.int .i64 0, .int .i64 0, .int .i64 0, .int .i64 1]) (by simp [results, Try.results13, go_sem]) rfl ⟨rfl, hbw1⟩
  | true =>
    have H1 := Lib.hid h1
    cases h2 : featsOk 72 ys with
    | false =>
      have F := Lib.hid (pe_bad (xs := xs) (ys := ys) (by rw [h2, Bool.and_false]))
      clear k0 k1 k2
      go_enter Try.func13, Try.ntmps13
      go_wp2_with fail
      with_reducible refine (iValidSeq_any _ _ _ xs _ hr hn).mono ?_
      rintro e w1 ⟨rfl, hbw1⟩
      go_wp2_with fail
      with_reducible refine (iValidSeq_any _ _ _ ys _ (hr'.on hbw1) hm).mono ?_
      rintro e w2 ⟨rfl, hbw2⟩
      go_wp2
      rw [F.out.1, F.out.2]
      exact bodyPost_ret (v := .tuple #[.int .i64 0, .int .i64 0, .int .i64 0, .int .i64 1]) (by simp [results, Try.results13, go_sem]) rfl ⟨rfl, below_on hbw2 hbw1⟩
    | true =>
      have H2 := Lib.hid h2
      have F := Lib.hid (pe_ok H1.out H2.out)
      obtain ⟨a0, a1, a2⟩ := featsOk_bd h1
      obtain ⟨b0, b1, b2⟩ := featsOk_bd h2
      have HA := Lib.hid a0
      have HB := Lib.hid b0
      rw [hl.out] at a1 a2
      rw [hl'.out] at b1 b2
      have hn1 : 1 ≤ n := by omega
      have hn72 : n ≤ 72 := by omega
      have hm1 : 1 ≤ m := by omega
      have hm72 : m ≤ 72 := by omega
      clear a0 b0 a1 a2 b1 b2
      go_enter Try.func13, Try.ntmps13
      go_wp2_with fail
      with_reducible refine (iValidSeq_any _ _ _ xs _ hr hn).mono ?_
      rintro e w1 ⟨rfl, hbw1⟩
      go_wp2_with fail
      with_reducible refine (iValidSeq_any _ _ _ ys _ (hr'.on hbw1) hm).mono ?_
      rintro e w2 ⟨rfl, hbw2⟩
      have hB2 := Lib.hid (below_on hbw2 hbw1)
      have HR := Lib.hid ((hr.on hbw1).on hbw2)
      have HR' := Lib.hid ((hr'.on hbw1).on hbw2)
      clear hr hr' hbw1 hbw2 hn hm
      go_wp2_with (refine wpList_make_full _ rfl _ _ _ rfl w2.heap.size 68 i1 _ 1 Try.underlying67 gi gz0 gz1 .i64 .i64 n n n rfl rfl rfl rfl (by rw [gz2]; omega) (by unfold maxLen; omega) (Nat.le_refl _) ?_; intro w3 hown hg)
      rw [madeS] at hown
      have hB3 : Below w2.heap.size w2 w3 := (Below.refl _ _).grown hg (Nat.le_refl _) (fun k h => by cases h)
      clear hg h1 h2
      go_loopw [9, 10, 11, 31] (fun _ _ _ i wr => ∃ (k : Nat) (rs : List Nat), k ≤ n ∧ i = .int .i64 k ∧ Hid (rs.length = k) ∧ Below w2.heap.size w2 wr ∧
          wr.ownsRow w2.heap.size 68 1 (.slice (some ⟨w2.heap.size, 0, none⟩) n n) n (rs.map (rowV m) ++ List.replicate (n - k) (.slice none 0 0)) ∧
          Hid (∀ r b, rs[r]? = some b → w2.heap.size < b ∧ b < wr.heap.size ∧ ∀ s, s < m → wr.cell? ⟨b, s * 2, none⟩ = some (.int .i64 (pt xs ys r s).1) ∧ wr.cell? ⟨b, s * 2 + 1, none⟩ = some (.int .i64 ((pt xs ys r s).2 : Nat)))) (fun _ _ _ i _ => n - (intOf i).toNat)
      case atStart => exact ⟨0, [], by omega, rfl, rfl, hB3, by simpa using hown, fun r b h => by simp at h⟩
      case round =>
        rename World => wr
        obtain ⟨k, rs, hk, rfl, hrs, hbr, hw, hrows⟩ := hrel
        clear hown hB3
        by_cases hlt : k < n
        · obtain ⟨⟨v0, e0⟩, f0⟩ := own_cell hw (j := k) (by omega)
          have hsz := World.block_lt_of_cell? wr _ e0
          have j0 : (0 : Int) ≤ (k : Int) := by omega
          have j1 : (k : Int) < (n : Int) := by omega
          go_wp2_with (refine wpList_make_full _ rfl _ _ _ rfl wr.heap.size 70 i0 _ 2 Try.underlying68 hi hz0 hz1 .i64 .i64 m m m rfl rfl rfl rfl (by rw [hz2]; omega) (by unfold maxLen; omega) (Nat.le_refl _) ?_; intro w4 hown2 hg2; have hb2 : Below wr.heap.size wr w4 := (Below.refl _ _).grown hg2 (Nat.le_refl _) (fun k h => by cases h); replace e0 := cell_on2 hb2 e0; replace f0 := (hb2.frozen (p := ⟨w2.heap.size, k, none⟩) hsz).trans f0)
          rw [made2] at hown2
          have hw2 := tabV_set (own_below hw hb2) hrs.out hlt wr.heap.size
          have ho2 := ownsRow_setCell_below hown2 (a := ⟨w2.heap.size, k, none⟩) hsz (.slice (some ⟨wr.heap.size, 0, none⟩) m m)
          have hB2b : Below w2.heap.size w2 (w4.setCell ⟨w2.heap.size, k, none⟩ (.slice (some ⟨wr.heap.size, 0, none⟩) m m)) := (below_on hb2 hbr).setCell (Nat.le_refl _) _
          have hrows2 : Hid (∀ r b, rs[r]? = some b → w2.heap.size < b ∧ b < wr.heap.size ∧ ∀ s, s < m → (w4.setCell ⟨w2.heap.size, k, none⟩ (.slice (some ⟨wr.heap.size, 0, none⟩) m m)).cell? ⟨b, s * 2, none⟩ = some (.int .i64 (pt xs ys r s).1) ∧ (w4.setCell ⟨w2.heap.size, k, none⟩ (.slice (some ⟨wr.heap.size, 0, none⟩) m m)).cell? ⟨b, s * 2 + 1, none⟩ = some (.int .i64 ((pt xs ys r s).2 : Nat))) := fun r b hrb => by
            obtain ⟨q1, q2, q3⟩ := hrows.out r b hrb
            refine ⟨q1, q2, fun s hs => ?_⟩
            rw [World.cell?_setCell_other _ _ _ _ (by intro e; have := congrArg Addr.block e; simp only at this; omega), World.cell?_setCell_other _ _ _ _ (by intro e; have := congrArg Addr.block e; simp only at this; omega)]
            exact ⟨cell_on2 hb2 (q3 s hs).1, cell_on2 hb2 (q3 s hs).2⟩
          have hz3 : wr.heap.size < (w4.setCell ⟨w2.heap.size, k, none⟩ (.slice (some ⟨wr.heap.size, 0, none⟩) m m)).heap.size := by obtain ⟨q, hq, _, hq2⟩ := own_at hown2 (by omega); cases hq; simpa [World.setCell] using hq2
          clear hown2 hg2 hb2 e0 f0 hw hrows hbr
          generalize w4.setCell ⟨w2.heap.size, k, none⟩ (.slice (some ⟨wr.heap.size, 0, none⟩) m m) = w5 at *
          generalize wr.heap.size = gk at *
          clear w4
          have HBT := Lib.hid hB2b
          have HWT := Lib.hid hw2
          clear hB2b hw2
          have tcell := tabV_cell (r := k) (b := gk) HWT.out (by omega) (by have := hrs.out; simp [this]) (by have := hrs.out; simp [← this])
          go_wp2
          go_loopw [10, 11, 42] (fun _ _ j wq => ∃ l : Nat, l ≤ m ∧ j = .int .i64 l ∧ Below gk w5 wq ∧ wq.ownsRow gk 70 2 (.slice (some ⟨gk, 0, none⟩) m m) m ((rowQ (pt xs ys) k l).flatMap c2 ++ List.replicate ((m - l) * 2) (.int .i64 0))) (fun _ _ j _ => m - (intOf j).toNat)
          case atStart => exact ⟨0, by omega, rfl, Below.refl _ _, by simpa [rowQ] using ho2⟩
          case round =>
            clear ho2
            rename World => wq
            obtain ⟨l, hlm, rfl, hb3, ho⟩ := hrel
            by_cases hlt' : l < m
            · have HBQ : Below w2.heap.size w2 wq := HBT.out.trans (hb3.mono (by omega))
              have UP : Hid (0 < k → ∃ b, wq.cell? ⟨w2.heap.size, k - 1, none⟩ = some (.slice (some ⟨b, 0, none⟩) m m) ∧ ∀ s, s < m → wq.cell? ⟨b, s * 2, none⟩ = some (.int .i64 (pt xs ys (k - 1) s).1) ∧ wq.cell? ⟨b, s * 2 + 1, none⟩ = some (.int .i64 ((pt xs ys (k - 1) s).2 : Nat))) := fun hk0 => by
                obtain ⟨b, hb⟩ : ∃ b, rs[k - 1]? = some b := ⟨_, List.getElem?_eq_getElem (by have := hrs.out; omega)⟩
                obtain ⟨q1, q2, q3⟩ := hrows2.out _ _ hb
                have tc := tabV_cell (r := k - 1) (b := b) HWT.out (by omega) (by have := hrs.out; simp [this]) (by rw [List.getElem?_append_left (by have := hrs.out; omega)]; exact hb)
                exact ⟨b, (hb3.cell (p := ⟨w2.heap.size, k - 1, none⟩) hsz).trans tc, fun s hs => ⟨(hb3.cell (p := ⟨b, s * 2, none⟩) q2).trans (q3 s hs).1, (hb3.cell (p := ⟨b, s * 2 + 1, none⟩) q2).trans (q3 s hs).2⟩⟩
              have LF : Hid (∃ b, wq.cell? ⟨w2.heap.size, k, none⟩ = some (.slice (some ⟨b, 0, none⟩) m m) ∧ ∀ s, s < l → wq.cell? ⟨b, s * 2, none⟩ = some (.int .i64 (pt xs ys k s).1) ∧ wq.cell? ⟨b, s * 2 + 1, none⟩ = some (.int .i64 ((pt xs ys k s).2 : Nat))) := ⟨gk, (hb3.cell (p := ⟨w2.heap.size, k, none⟩) hsz).trans tcell, fun s hs => rowQ_cell ho (by omega) hs⟩
              have TC : Hid (wq.cell? ⟨w2.heap.size, k, none⟩ = some (.slice (some ⟨gk, 0, none⟩) m m)) := (hb3.cell (p := ⟨w2.heap.size, k, none⟩) hsz).trans tcell
              have HO := Lib.hid ho
              have HB3 := Lib.hid hb3
              have HBq := Lib.hid HBQ
              have zg := hb3.size
              have zg2 : gk < wq.heap.size := by omega
              have j2 : (0 : Int) ≤ (l : Int) := by omega
              have j3 : (l : Int) < (m : Int) := by omega
              have HTC := Lib.hid tcell
              have RG := Lib.hid (pt3_bd (i := k) (j := l) HA.out HB.out (by have := hl.out; omega) (by have := hl'.out; omega) (by have := hl.out; omega) (by have := hl'.out; omega))
              clear ho hb3 HBQ tcell
              by_cases ck : 0 < k
              · have c1 : ((k : Int) == 0) = false := by simp; omega
                have K0 := Blk.new wq 70 #[.int .i64 1099511627776, .int .i64 0]
                have hbs : Below wq.heap.size wq (wq.alloc (.cells #[.int .i64 1099511627776, .int .i64 0] 70)) := (by repeat (first | exact Below.refl _ _ | assumption | refine Below.drew ?_ | refine below_drewN ?_ _ | refine Below.alloc ?_ (by first | omega | (simp <;> omega)) _ | refine Below.setCell ?_ (by first | omega | (simp <;> omega)) _))
                have P0 : Hid (ptP (pt xs ys) k l 0 = (1099511627776, 0)) := by show pt0 k l = _; unfold pt0; rw [if_neg (by omega)]
                go_wp2_with fail
                with_reducible refine (stepsBack_any _).mono ?_
                rintro e w6 ⟨rfl, hbw6⟩
                have K6 := K0.on hbw6
                have hb6 := below_app hbs hbw6 hbs.size
                clear K0 hbs hbw6 c1
                go_wp2
                go_loopw [51] (fun q wz => ∃ (k9 : Nat), k9 ≤ 3 ∧ q = .int .i64 k9 ∧ Blk wz wq.heap.size 70 #[.int .i64 (ptP (pt xs ys) k l k9).1, .int .i64 ((ptP (pt xs ys) k l k9).2 : Nat)] ∧ Below wq.heap.size wq wz) (fun q _ => 3 - (intOf q).toNat)
                case atStart => exact ⟨0, by omega, rfl, by rw [P0.out]; exact K6, hb6⟩
                case round =>
                  clear K6 hb6
                  rename World => wz
                  obtain ⟨k9, hk9, rfl, K, hbz⟩ := hrel
                  obtain ⟨⟨c, f⟩, hQ⟩ : ∃ Q : Int × Nat, Hid (ptP (pt xs ys) k l k9 = Q) := ⟨_, rfl⟩
                  rw [hQ.out] at K
                  have zKz := K.lt
                  match k9, hk9 with
                  | 0, _ =>
                    by_cases cl : 0 < l
                    · clear k1
                      clear k2
                      have ci : (1 : Int) ≤ (k : Int) := by omega
                      have cj : (1 : Int) ≤ (l : Int) := by omega
                      obtain ⟨bp, r1, r2⟩ := UP.out (by omega)
                      obtain ⟨r3, r4⟩ := r2 (l - 1) (by omega)
                      have zb0 := World.block_lt_of_cell? wq _ r1
                      have zb1 := World.block_lt_of_cell? wq _ r3
                      simp only at zb0 zb1
                      replace r1 := cell_on2 hbz r1
                      replace r3 := cell_on2 hbz r3
                      replace r4 := cell_on2 hbz r4
                      clear r2
                      obtain ⟨p1, hp1⟩ : ∃ u, Hid ((pt xs ys (k - 1) (l - 1)).1 = u) := ⟨_, rfl⟩
                      obtain ⟨p2, hp2⟩ : ∃ u, Hid ((pt xs ys (k - 1) (l - 1)).2 = u) := ⟨_, rfl⟩
                      rw [hp1.out] at r3
                      rw [hp2.out] at r4
                      have N : Hid (ptP (pt xs ys) k l (0 + 1) = bst (p1, p2) (c, f)) := by unfold Hid; rw [ptP_step (.inl ⟨rfl, by omega, by omega, rfl, rfl⟩), hQ.out, show pt xs ys (k - 1) (l - 1) = (p1, p2) from Prod.ext hp1.out hp2.out]
                      have o1 : IntKind.i64.wrap ((k : Int) - 1) = ((k : Int) - 1) := IntWalk.i64_in _ (by omega)
                      have o2 : IntKind.i64.wrap ((l : Int) - 1) = ((l : Int) - 1) := IntWalk.i64_in _ (by omega)
                      have o3 : (0 : Int) ≤ ((k : Int) - 1) := by omega
                      have o4 : ((k : Int) - 1) < (n : Int) := by omega
                      have o5 : (((k : Int) - 1)).toNat = (k - 1) := by omega
                      have o6 : (0 : Int) ≤ ((l : Int) - 1) := by omega
                      have o7 : ((l : Int) - 1) < (m : Int) := by omega
                      have o8 : (((l : Int) - 1)).toNat = (l - 1) := by omega
                      have zK := K.lt
                      go_wp2_with fail
                      have KA := Blk.new (wz) 71 #[.int .i64 1, .int .i64 1]
                      have hbwa : Below (wz).heap.size (wz) ((wz).alloc (.cells #[.int .i64 1, .int .i64 1] 71)) := (Below.refl _ _).alloc (Nat.le_refl _) _
                      replace K := K.on hbwa
                      generalize (wz).alloc (.cells #[.int .i64 1, .int .i64 1] 71) = wa at *
                      replace r1 := cell_on2 hbwa r1
                      replace r3 := cell_on2 hbwa r3
                      replace r4 := cell_on2 hbwa r4
                      have hbwq := below_app hbz hbwa hbz.size
                      have a0 := KA.cell 0
                      have a1 := KA.cell 1
                      simp only [List.getElem?_toArray, List.getElem?_cons_succ, List.getElem?_cons_zero] at a0 a1
                      have e0 := K.cell 0
                      have e1 := K.cell 1
                      simp only [List.getElem?_toArray, List.getElem?_cons_succ, List.getElem?_cons_zero] at e0 e1
                      have f0 := K.frozen 0
                      have f1 := K.frozen 1
                      have zA := KA.lt
                      have zKa := K.lt
                      have zq0 : w2.heap.size < wa.heap.size := by omega
                      have zq1 : bp < wa.heap.size := by omega
                      have HK := Lib.hid K
                      clear K KA hbz hbwa
                      cases hbt : bet (p1, p2) (c, f) with
                      | false =>
                        have HBET : Hid (bet (p1, p2) (c, f) = false) := hbt
                        replace N : Hid (ptP (pt xs ys) k l (0 + 1) = (c, f)) := by unfold Hid; rw [N.out]; unfold bst; rw [HBET.out]; rfl
                        clear hbt
                        go_region_held3 (fun w' => (∀ b o, b < wa.heap.size → w'.cell? ⟨b, o, none⟩ = wa.cell? ⟨b, o, none⟩) ∧ Below wa.heap.size wa w') (first | exact sk (Below.refl _ _).drew | (go_split_ands; exact sk (below_app ‹_› hbw7 (Below.size ‹_›)))) (first | (go_at_call 46; with_reducible refine (better_any _ _ _ _ _).mono ?_; rw [HBET.out]; rintro e w7 ⟨rfl, hbw7⟩))
                        go_split_ands
                        have hb7 : Below wa.heap.size wa w7 := below_app ((Below.refl _ _).drew) hbw7 (Nat.le_refl _)
                        have hbq7 := below_app hbwq hb7 hbwq.size
                        clear o1 o2 o5 o8
                        go_wp2
                        exact ⟨⟨0 + 1, by omega, by go_num, by rw [N.out]; exact HK.out.on hb7, hbq7⟩, by simp [intOf]⟩
                      | true =>
                        have HBET : Hid (bet (p1, p2) (c, f) = true) := hbt
                        replace N : Hid (ptP (pt xs ys) k l (0 + 1) = (p1, p2)) := by unfold Hid; rw [N.out]; unfold bst; rw [HBET.out]; rfl
                        clear hbt
                        go_region_held3 (fun w' => (∀ b o, b < wa.heap.size → w'.cell? ⟨b, o, none⟩ = wa.cell? ⟨b, o, none⟩) ∧ Below wa.heap.size wa w') (first | exact sk (Below.refl _ _).drew | (go_split_ands; exact sk (below_app ‹_› hbw7 (Below.size ‹_›)))) (first | (go_at_call 46; with_reducible refine (better_any _ _ _ _ _).mono ?_; rw [HBET.out]; rintro e w7 ⟨rfl, hbw7⟩))
                        go_split_ands
                        have hb7 : Below wa.heap.size wa w7 := below_app ((Below.refl _ _).drew) hbw7 (Nat.le_refl _)
                        have hbq7 := below_app hbwq hb7 hbwq.size
                        replace r1 := cell_on2 hb7 r1
                        replace r3 := cell_on2 hb7 r3
                        replace r4 := cell_on2 hb7 r4
                        replace a0 := cell_on2 hb7 a0
                        replace a1 := cell_on2 hb7 a1
                        have K7 := HK.out.on hb7
                        clear e0 e1 f0 f1
                        have e0 := K7.cell 0
                        have e1 := K7.cell 1
                        simp only [List.getElem?_toArray, List.getElem?_cons_succ, List.getElem?_cons_zero] at e0 e1
                        have f0 := K7.frozen 0
                        have f1 := K7.frozen 1
                        have hk1 : wq.heap.size ≠ wz.heap.size := by omega
                        have hk2 : wq.heap.size ≠ w2.heap.size := by omega
                        have hk3 : wq.heap.size ≠ bp := by omega
                        have HK7 := Lib.hid K7
                        clear K7
                        rename ∀ (b o : Nat), b < wa.heap.size → w7.cell? ⟨b, o, none⟩ = wa.cell? ⟨b, o, none⟩ => hSS
                        clear hSS
                        go_wp2_with fail
                        go_region_held3 (fun w' => w'.cell? ⟨wz.heap.size, 0, none⟩ = some (.int .i64 1) ∧ w'.cell? ⟨wz.heap.size, 1, none⟩ = some (.int .i64 1) ∧ w'.cell? ⟨w2.heap.size, (k - 1), none⟩ = some (.slice (some ⟨bp, 0, none⟩) m m) ∧ w'.cell? ⟨bp, (l - 1) * 2, none⟩ = some (.int .i64 p1) ∧ w'.cell? ⟨bp, (l - 1) * 2 + 1, none⟩ = some (.int .i64 p2)) (first | exact ⟨a0, a1, r1, r3, r4⟩ | go_keep) (fail)
                        go_split_ands
                        go_wp2
                        clear o1 o2 o5 o8
                        refine ⟨⟨0 + 1, by omega, by go_num, ?_, (by repeat (first | exact Below.refl _ _ | assumption | refine Below.drew ?_ | refine below_drewN ?_ _ | refine Below.alloc ?_ (by first | omega | (simp <;> omega)) _ | refine Below.setCell ?_ (by first | omega | (simp <;> omega)) _))⟩, by simp [intOf]⟩
                        rw [N.out]
                        have K9 := ((HK7.out.set_ 0 (.int .i64 p1)).set_ 1 (.int .i64 p2)).drew
                        simpa using K9
                    · clear k1
                      clear k2
                      have ci : (1 : Int) ≤ (k : Int) := by omega
                      have dj : decide ((1 : Int) ≤ (l : Int)) = false := decide_eq_false (by omega)
                      have N : Hid (ptP (pt xs ys) k l (0 + 1) = (c, f)) := by unfold Hid; rw [ptP_same (.inl ⟨rfl, by omega⟩), hQ.out]
                      have zr : Below wz.heap.size wz (wz.alloc (.cells #[.int .i64 1, .int .i64 1] 71)) := (Below.refl _ _).alloc (Nat.le_refl _) _
                      go_wp2
                      go_quiet (fail)
                      go_wp2
                      exact ⟨⟨0 + 1, by omega, by go_num, by rw [N.out]; exact K.on (below_drewN zr _), below_app hbz (below_drewN zr _) hbz.size⟩, by simp [intOf]⟩
                  | 1, _ =>
                    clear k0
                    clear k2
                    have ci : (1 : Int) ≤ (k : Int) := by omega
                    obtain ⟨bp, r1, r2⟩ := UP.out (by omega)
                    obtain ⟨r3, r4⟩ := r2 l (by omega)
                    have zb0 := World.block_lt_of_cell? wq _ r1
                    have zb1 := World.block_lt_of_cell? wq _ r3
                    simp only at zb0 zb1
                    replace r1 := cell_on2 hbz r1
                    replace r3 := cell_on2 hbz r3
                    replace r4 := cell_on2 hbz r4
                    clear r2
                    obtain ⟨p1, hp1⟩ : ∃ u, Hid ((pt xs ys (k - 1) l).1 = u) := ⟨_, rfl⟩
                    obtain ⟨p2, hp2⟩ : ∃ u, Hid ((pt xs ys (k - 1) l).2 = u) := ⟨_, rfl⟩
                    rw [hp1.out] at r3
                    rw [hp2.out] at r4
                    have N : Hid (ptP (pt xs ys) k l (1 + 1) = bst (p1, p2) (c, f)) := by unfold Hid; rw [ptP_step (.inr (.inl ⟨rfl, by omega, rfl, rfl⟩)), hQ.out, show pt xs ys (k - 1) l = (p1, p2) from Prod.ext hp1.out hp2.out]
                    have o1 : IntKind.i64.wrap ((k : Int) - 1) = ((k : Int) - 1) := IntWalk.i64_in _ (by omega)
                    have o2 : IntKind.i64.wrap (l : Int) = (l : Int) := IntWalk.i64_in _ (by omega)
                    have o3 : (0 : Int) ≤ ((k : Int) - 1) := by omega
                    have o4 : ((k : Int) - 1) < (n : Int) := by omega
                    have o5 : (((k : Int) - 1)).toNat = (k - 1) := by omega
                    have o6 : (0 : Int) ≤ (l : Int) := by omega
                    have o7 : (l : Int) < (m : Int) := by omega
                    have o8 : ((l : Int)).toNat = l := by omega
                    have zK := K.lt
                    go_wp2_with fail
                    have KA := Blk.new (wz) 71 #[.int .i64 1, .int .i64 0]
                    have hbwa : Below (wz).heap.size (wz) ((wz).alloc (.cells #[.int .i64 1, .int .i64 0] 71)) := (Below.refl _ _).alloc (Nat.le_refl _) _
                    replace K := K.on hbwa
                    generalize (wz).alloc (.cells #[.int .i64 1, .int .i64 0] 71) = wa at *
                    replace r1 := cell_on2 hbwa r1
                    replace r3 := cell_on2 hbwa r3
                    replace r4 := cell_on2 hbwa r4
                    have hbwq := below_app hbz hbwa hbz.size
                    have a0 := KA.cell 0
                    have a1 := KA.cell 1
                    simp only [List.getElem?_toArray, List.getElem?_cons_succ, List.getElem?_cons_zero] at a0 a1
                    have e0 := K.cell 0
                    have e1 := K.cell 1
                    simp only [List.getElem?_toArray, List.getElem?_cons_succ, List.getElem?_cons_zero] at e0 e1
                    have f0 := K.frozen 0
                    have f1 := K.frozen 1
                    have zA := KA.lt
                    have zKa := K.lt
                    have zq0 : w2.heap.size < wa.heap.size := by omega
                    have zq1 : bp < wa.heap.size := by omega
                    have HK := Lib.hid K
                    clear K KA hbz hbwa
                    cases hbt : bet (p1, p2) (c, f) with
                    | false =>
                      have HBET : Hid (bet (p1, p2) (c, f) = false) := hbt
                      replace N : Hid (ptP (pt xs ys) k l (1 + 1) = (c, f)) := by unfold Hid; rw [N.out]; unfold bst; rw [HBET.out]; rfl
                      clear hbt
                      go_region_held3 (fun w' => (∀ b o, b < wa.heap.size → w'.cell? ⟨b, o, none⟩ = wa.cell? ⟨b, o, none⟩) ∧ Below wa.heap.size wa w') (first | exact sk (Below.refl _ _).drew | (go_split_ands; exact sk (below_app ‹_› hbw7 (Below.size ‹_›)))) (first | (go_at_call 46; with_reducible refine (better_any _ _ _ _ _).mono ?_; rw [HBET.out]; rintro e w7 ⟨rfl, hbw7⟩))
                      go_split_ands
                      have hb7 : Below wa.heap.size wa w7 := below_app ((Below.refl _ _).drew) hbw7 (Nat.le_refl _)
                      have hbq7 := below_app hbwq hb7 hbwq.size
                      clear o1 o2 o5 o8
                      go_wp2
                      exact ⟨⟨1 + 1, by omega, by go_num, by rw [N.out]; exact HK.out.on hb7, hbq7⟩, by simp [intOf]⟩
                    | true =>
                      have HBET : Hid (bet (p1, p2) (c, f) = true) := hbt
                      replace N : Hid (ptP (pt xs ys) k l (1 + 1) = (p1, p2)) := by unfold Hid; rw [N.out]; unfold bst; rw [HBET.out]; rfl
                      clear hbt
                      go_region_held3 (fun w' => (∀ b o, b < wa.heap.size → w'.cell? ⟨b, o, none⟩ = wa.cell? ⟨b, o, none⟩) ∧ Below wa.heap.size wa w') (first | exact sk (Below.refl _ _).drew | (go_split_ands; exact sk (below_app ‹_› hbw7 (Below.size ‹_›)))) (first | (go_at_call 46; with_reducible refine (better_any _ _ _ _ _).mono ?_; rw [HBET.out]; rintro e w7 ⟨rfl, hbw7⟩))
                      go_split_ands
                      have hb7 : Below wa.heap.size wa w7 := below_app ((Below.refl _ _).drew) hbw7 (Nat.le_refl _)
                      have hbq7 := below_app hbwq hb7 hbwq.size
                      replace r1 := cell_on2 hb7 r1
                      replace r3 := cell_on2 hb7 r3
                      replace r4 := cell_on2 hb7 r4
                      replace a0 := cell_on2 hb7 a0
                      replace a1 := cell_on2 hb7 a1
                      have K7 := HK.out.on hb7
                      clear e0 e1 f0 f1
                      have e0 := K7.cell 0
                      have e1 := K7.cell 1
                      simp only [List.getElem?_toArray, List.getElem?_cons_succ, List.getElem?_cons_zero] at e0 e1
                      have f0 := K7.frozen 0
                      have f1 := K7.frozen 1
                      have hk1 : wq.heap.size ≠ wz.heap.size := by omega
                      have hk2 : wq.heap.size ≠ w2.heap.size := by omega
                      have hk3 : wq.heap.size ≠ bp := by omega
                      have HK7 := Lib.hid K7
                      clear K7
                      rename ∀ (b o : Nat), b < wa.heap.size → w7.cell? ⟨b, o, none⟩ = wa.cell? ⟨b, o, none⟩ => hSS
                      clear hSS
                      go_wp2_with fail
                      go_region_held3 (fun w' => w'.cell? ⟨wz.heap.size, 0, none⟩ = some (.int .i64 1) ∧ w'.cell? ⟨wz.heap.size, 1, none⟩ = some (.int .i64 0) ∧ w'.cell? ⟨w2.heap.size, (k - 1), none⟩ = some (.slice (some ⟨bp, 0, none⟩) m m) ∧ w'.cell? ⟨bp, l * 2, none⟩ = some (.int .i64 p1) ∧ w'.cell? ⟨bp, l * 2 + 1, none⟩ = some (.int .i64 p2)) (first | exact ⟨a0, a1, r1, r3, r4⟩ | go_keep) (fail)
                      go_split_ands
                      go_wp2
                      clear o1 o2 o5 o8
                      refine ⟨⟨1 + 1, by omega, by go_num, ?_, (by repeat (first | exact Below.refl _ _ | assumption | refine Below.drew ?_ | refine below_drewN ?_ _ | refine Below.alloc ?_ (by first | omega | (simp <;> omega)) _ | refine Below.setCell ?_ (by first | omega | (simp <;> omega)) _))⟩, by simp [intOf]⟩
                      rw [N.out]
                      have K9 := ((HK7.out.set_ 0 (.int .i64 p1)).set_ 1 (.int .i64 p2)).drew
                      simpa using K9
                  | 2, _ =>
                    by_cases cl : 0 < l
                    · clear k0
                      clear k1
                      have cj : (1 : Int) ≤ (l : Int) := by omega
                      obtain ⟨bp, r1, r2⟩ := LF.out
                      obtain ⟨r3, r4⟩ := r2 (l - 1) (by omega)
                      have zb0 := World.block_lt_of_cell? wq _ r1
                      have zb1 := World.block_lt_of_cell? wq _ r3
                      simp only at zb0 zb1
                      replace r1 := cell_on2 hbz r1
                      replace r3 := cell_on2 hbz r3
                      replace r4 := cell_on2 hbz r4
                      clear r2
                      obtain ⟨p1, hp1⟩ : ∃ u, Hid ((pt xs ys k (l - 1)).1 = u) := ⟨_, rfl⟩
                      obtain ⟨p2, hp2⟩ : ∃ u, Hid ((pt xs ys k (l - 1)).2 = u) := ⟨_, rfl⟩
                      rw [hp1.out] at r3
                      rw [hp2.out] at r4
                      have N : Hid (ptP (pt xs ys) k l (2 + 1) = bst (p1, p2) (c, f)) := by unfold Hid; rw [ptP_step (.inr (.inr ⟨rfl, by omega, rfl, rfl⟩)), hQ.out, show pt xs ys k (l - 1) = (p1, p2) from Prod.ext hp1.out hp2.out]
                      have o1 : IntKind.i64.wrap (k : Int) = (k : Int) := IntWalk.i64_in _ (by omega)
                      have o2 : IntKind.i64.wrap ((l : Int) - 1) = ((l : Int) - 1) := IntWalk.i64_in _ (by omega)
                      have o3 : (0 : Int) ≤ (k : Int) := by omega
                      have o4 : (k : Int) < (n : Int) := by omega
                      have o5 : ((k : Int)).toNat = k := by omega
                      have o6 : (0 : Int) ≤ ((l : Int) - 1) := by omega
                      have o7 : ((l : Int) - 1) < (m : Int) := by omega
                      have o8 : (((l : Int) - 1)).toNat = (l - 1) := by omega
                      have zK := K.lt
                      go_wp2_with fail
                      have KA := Blk.new (wz) 71 #[.int .i64 0, .int .i64 1]
                      have hbwa : Below (wz).heap.size (wz) ((wz).alloc (.cells #[.int .i64 0, .int .i64 1] 71)) := (Below.refl _ _).alloc (Nat.le_refl _) _
                      replace K := K.on hbwa
                      generalize (wz).alloc (.cells #[.int .i64 0, .int .i64 1] 71) = wa at *
                      replace r1 := cell_on2 hbwa r1
                      replace r3 := cell_on2 hbwa r3
                      replace r4 := cell_on2 hbwa r4
                      have hbwq := below_app hbz hbwa hbz.size
                      have a0 := KA.cell 0
                      have a1 := KA.cell 1
                      simp only [List.getElem?_toArray, List.getElem?_cons_succ, List.getElem?_cons_zero] at a0 a1
                      have e0 := K.cell 0
                      have e1 := K.cell 1
                      simp only [List.getElem?_toArray, List.getElem?_cons_succ, List.getElem?_cons_zero] at e0 e1
                      have f0 := K.frozen 0
                      have f1 := K.frozen 1
                      have zA := KA.lt
                      have zKa := K.lt
                      have zq0 : w2.heap.size < wa.heap.size := by omega
                      have zq1 : bp < wa.heap.size := by omega
                      have HK := Lib.hid K
                      clear K KA hbz hbwa
                      cases hbt : bet (p1, p2) (c, f) with
                      | false =>
                        have HBET : Hid (bet (p1, p2) (c, f) = false) := hbt
                        replace N : Hid (ptP (pt xs ys) k l (2 + 1) = (c, f)) := by unfold Hid; rw [N.out]; unfold bst; rw [HBET.out]; rfl
                        clear hbt
                        go_region_held3 (fun w' => (∀ b o, b < wa.heap.size → w'.cell? ⟨b, o, none⟩ = wa.cell? ⟨b, o, none⟩) ∧ Below wa.heap.size wa w') (first | exact sk (Below.refl _ _).drew | (go_split_ands; exact sk (below_app ‹_› hbw7 (Below.size ‹_›)))) (first | (go_at_call 46; with_reducible refine (better_any _ _ _ _ _).mono ?_; rw [HBET.out]; rintro e w7 ⟨rfl, hbw7⟩))
                        go_split_ands
                        have hb7 : Below wa.heap.size wa w7 := below_app ((Below.refl _ _).drew) hbw7 (Nat.le_refl _)
                        have hbq7 := below_app hbwq hb7 hbwq.size
                        clear o1 o2 o5 o8
                        go_wp2
                        exact ⟨⟨2 + 1, by omega, by go_num, by rw [N.out]; exact HK.out.on hb7, hbq7⟩, by simp [intOf]⟩
                      | true =>
                        have HBET : Hid (bet (p1, p2) (c, f) = true) := hbt
                        replace N : Hid (ptP (pt xs ys) k l (2 + 1) = (p1, p2)) := by unfold Hid; rw [N.out]; unfold bst; rw [HBET.out]; rfl
                        clear hbt
                        go_region_held3 (fun w' => (∀ b o, b < wa.heap.size → w'.cell? ⟨b, o, none⟩ = wa.cell? ⟨b, o, none⟩) ∧ Below wa.heap.size wa w') (first | exact sk (Below.refl _ _).drew | (go_split_ands; exact sk (below_app ‹_› hbw7 (Below.size ‹_›)))) (first | (go_at_call 46; with_reducible refine (better_any _ _ _ _ _).mono ?_; rw [HBET.out]; rintro e w7 ⟨rfl, hbw7⟩))
                        go_split_ands
                        have hb7 : Below wa.heap.size wa w7 := below_app ((Below.refl _ _).drew) hbw7 (Nat.le_refl _)
                        have hbq7 := below_app hbwq hb7 hbwq.size
                        replace r1 := cell_on2 hb7 r1
                        replace r3 := cell_on2 hb7 r3
                        replace r4 := cell_on2 hb7 r4
                        replace a0 := cell_on2 hb7 a0
                        replace a1 := cell_on2 hb7 a1
                        have K7 := HK.out.on hb7
                        clear e0 e1 f0 f1
                        have e0 := K7.cell 0
                        have e1 := K7.cell 1
                        simp only [List.getElem?_toArray, List.getElem?_cons_succ, List.getElem?_cons_zero] at e0 e1
                        have f0 := K7.frozen 0
                        have f1 := K7.frozen 1
                        have hk1 : wq.heap.size ≠ wz.heap.size := by omega
                        have hk2 : wq.heap.size ≠ w2.heap.size := by omega
                        have hk3 : wq.heap.size ≠ bp := by omega
                        have HK7 := Lib.hid K7
                        clear K7
                        rename ∀ (b o : Nat), b < wa.heap.size → w7.cell? ⟨b, o, none⟩ = wa.cell? ⟨b, o, none⟩ => hSS
                        clear hSS
                        go_wp2_with fail
                        go_region_held3 (fun w' => w'.cell? ⟨wz.heap.size, 0, none⟩ = some (.int .i64 0) ∧ w'.cell? ⟨wz.heap.size, 1, none⟩ = some (.int .i64 1) ∧ w'.cell? ⟨w2.heap.size, k, none⟩ = some (.slice (some ⟨bp, 0, none⟩) m m) ∧ w'.cell? ⟨bp, (l - 1) * 2, none⟩ = some (.int .i64 p1) ∧ w'.cell? ⟨bp, (l - 1) * 2 + 1, none⟩ = some (.int .i64 p2)) (first | exact ⟨a0, a1, r1, r3, r4⟩ | go_keep) (fail)
                        go_split_ands
                        go_wp2
                        clear o1 o2 o5 o8
                        refine ⟨⟨2 + 1, by omega, by go_num, ?_, (by repeat (first | exact Below.refl _ _ | assumption | refine Below.drew ?_ | refine below_drewN ?_ _ | refine Below.alloc ?_ (by first | omega | (simp <;> omega)) _ | refine Below.setCell ?_ (by first | omega | (simp <;> omega)) _))⟩, by simp [intOf]⟩
                        rw [N.out]
                        have K9 := ((HK7.out.set_ 0 (.int .i64 p1)).set_ 1 (.int .i64 p2)).drew
                        simpa using K9
                    · clear k0
                      clear k1
                      have dj : decide ((1 : Int) ≤ (l : Int)) = false := decide_eq_false (by omega)
                      have N : Hid (ptP (pt xs ys) k l (2 + 1) = (c, f)) := by unfold Hid; rw [ptP_same (.inr (.inr ⟨rfl, by omega⟩)), hQ.out]
                      have zr : Below wz.heap.size wz (wz.alloc (.cells #[.int .i64 0, .int .i64 1] 71)) := (Below.refl _ _).alloc (Nat.le_refl _) _
                      go_wp2
                      go_quiet (fail)
                      go_wp2
                      exact ⟨⟨2 + 1, by omega, by go_num, by rw [N.out]; exact K.on (below_drewN zr _), below_app hbz (below_drewN zr _) hbz.size⟩, by simp [intOf]⟩
                  | 3, _ =>
                    have PT : Hid (pt xs ys k l = (c + cst xs ys k l, f)) := by
                      have h9 := pt_eq xs ys k l
                      have h8 : pt3 (pt xs ys) k l = (c, f) := hQ.out
                      unfold Hid
                      rw [h9, h8]
                    have hc9 : -1000 ≤ c ∧ c ≤ 100000 := by have h9 := RG.out; rw [hQ.out] at h9; exact h9
                    obtain ⟨hc0, hc1⟩ := hc9
                    obtain ⟨b0, off0, x, y, d, rfl, hbl0, hx, q0, q1, q2⟩ := (HR.out.below (HBq.out.trans (hbz.mono (by omega)))).at3 hlt
                    obtain ⟨b1, off1, x', y', d', rfl, hbl1, hx', p0, p1, p2⟩ := (HR'.out.below (HBq.out.trans (hbz.mono (by omega)))).at3 hlt'
                    have V1 : featB x y d = true := all_at (p := featOk) (x := (x, y, d)) HA.out hx.out
                    have V2 : featB x' y' d' = true := all_at (p := featOk) (x := (x', y', d')) HB.out hx'.out
                    obtain ⟨cb0, cb1⟩ := costF_bd (a := (x, y, d)) (b := (x', y', d')) V1 V2
                    have V1 := Lib.hid V1
                    have V2 := Lib.hid V2
                    have CST : Hid (cst xs ys k l = costF (x, y, d) (x', y', d')) := by unfold Hid cst; rw [getD_of hx.out, getD_of hx'.out]
                    have o1 : IntKind.i64.wrap (c + costF (x, y, d) (x', y', d')) = c + costF (x, y, d) (x', y', d') := IntWalk.i64_in _ (by omega)
                    have i1 : (k : Int) < (n : Int) := by omega
                    have i2 : (0 : Int) ≤ (k : Int) := by omega
                    have zb0 : b0 < wz.heap.size := by omega
                    have zb1 : b1 < wz.heap.size := by omega
                    have e0 := K.cell 0
                    have e1 := K.cell 1
                    simp only [List.getElem?_toArray, List.getElem?_cons_succ, List.getElem?_cons_zero] at e0 e1
                    have fz0 := K.frozen 0
                    have fz1 := K.frozen 1
                    have HK := Lib.hid K
                    have HBZ := Lib.hid hbz
                    clear K k0 k1 k2
                    go_wp2_with fail
                    go_cut [] from 1000 (fun w' => Below wq.heap.size wq w' ∧ Blk w' wq.heap.size 70 #[.int .i64 (c + costF (x, y, d) (x', y', d')), .int .i64 f])
                    case first =>
                      go_region_with ((go_at_call 47; with_reducible refine (featCost_any x y d x' y' d' _ V1.out V2.out).mono ?_; rintro e w8 ⟨rfl, hbx8⟩; have hbw8 : Below wz.heap.size wz w8 := below_app ((Below.refl _ _).drew) hbx8 (Nat.le_refl _); clear hbx8; have z8 := hbw8.size; replace e0 := cell_on2 hbw8 e0; replace e1 := cell_on2 hbw8 e1; replace fz0 := (hbw8.frozen (p := ⟨wq.heap.size, 0, none⟩) zKz).trans fz0; replace q0 := cell_on2 hbw8 q0; replace q1 := cell_on2 hbw8 q1; replace q2 := cell_on2 hbw8 q2; replace p0 := cell_on2 hbw8 p0; replace p1 := cell_on2 hbw8 p1; replace p2 := cell_on2 hbw8 p2))
                      all_goals (go_wp2; go_meet; exact ⟨(below_app HBZ.out hbw8 HBZ.out.size).setCell (Nat.le_refl _) _, (HK.out.on hbw8).set_ 0 (.int .i64 (c + costF (x, y, d) (x', y', d')))⟩)
                    case rest =>
                      obtain ⟨hbx, K8⟩ := hcut
                      clear HK HBZ e0 e1 fz0 q0 q1 q2 p0 p1 p2
                      have hox := own_below HO.out hbx
                      have tz := cell_on2 hbx TC.out
                      obtain ⟨⟨v5, g5⟩, f5⟩ := own_cell hox (j := l * 2) (by omega)
                      obtain ⟨⟨v6, g6⟩, f6⟩ := own_cell hox (j := l * 2 + 1) (by omega)
                      have zK8 := K8.lt
                      have e0 := K8.cell 0
                      have e1 := K8.cell 1
                      simp only [List.getElem?_toArray, List.getElem?_cons_succ, List.getElem?_cons_zero] at e0 e1
                      have zgz : gk < wc.heap.size := by omega
                      have hk3 : gk ≠ wq.heap.size := by omega
                      have hk4 : gk ≠ w2.heap.size := by omega
                      have PT' : Hid (cq (pt xs ys k l) = (c + costF (x, y, d) (x', y', d'), (f : Int))) := by unfold Hid cq; rw [PT.out, CST.out]
                      have W1 := put2 hox (rowQ_len (pt xs ys) k l) hlt' (c + costF (x, y, d) (x', y', d')) f
                      rw [← PT'.out, ← rowQ_step] at W1
                      have HW1 := Lib.hid W1
                      clear W1 hox K8
                      go_wp2_with fail
                      go_region_held3 (fun w' => w'.cell? ⟨w2.heap.size, k, none⟩ = some (.slice (some ⟨gk, 0, none⟩) m m) ∧ w'.cell? ⟨wq.heap.size, 0, none⟩ = some (.int .i64 (c + costF (x, y, d) (x', y', d'))) ∧ w'.cell? ⟨wq.heap.size, 1, none⟩ = some (.int .i64 f)) (first | exact ⟨tz, e0, e1⟩ | go_keep) (fail)
                      go_split_ands
                      go_wp2
                      refine ⟨⟨l + 1, by omega, by go_num, ?_, HW1.out.drew⟩, by simp [intOf]; omega⟩
                      exact (((HB3.out.trans (hbx.mono (by omega))).setCell (p := ⟨gk, l * 2, none⟩) (Nat.le_refl _) _).setCell (p := ⟨gk, l * 2 + 1, none⟩) (Nat.le_refl _) _).drew
              · have c1 : ((k : Int) == 0) = true := by simp; omega
                have K0 := Blk.new wq 70 #[.int .i64 0, .int .i64 l]
                have hbs : Below wq.heap.size wq (wq.alloc (.cells #[.int .i64 0, .int .i64 l] 70)) := (by repeat (first | exact Below.refl _ _ | assumption | refine Below.drew ?_ | refine below_drewN ?_ _ | refine Below.alloc ?_ (by first | omega | (simp <;> omega)) _ | refine Below.setCell ?_ (by first | omega | (simp <;> omega)) _))
                have P0 : Hid (ptP (pt xs ys) k l 0 = (0, l)) := by show pt0 k l = _; unfold pt0; rw [if_pos (by omega)]
                go_wp2_with fail
                with_reducible refine (stepsBack_any _).mono ?_
                rintro e w6 ⟨rfl, hbw6⟩
                have K6 := K0.on hbw6
                have hb6 := below_app hbs hbw6 hbs.size
                clear K0 hbs hbw6 c1
                go_wp2
                go_loopw [51] (fun q wz => ∃ (k9 : Nat), k9 ≤ 3 ∧ q = .int .i64 k9 ∧ Blk wz wq.heap.size 70 #[.int .i64 (ptP (pt xs ys) k l k9).1, .int .i64 ((ptP (pt xs ys) k l k9).2 : Nat)] ∧ Below wq.heap.size wq wz) (fun q _ => 3 - (intOf q).toNat)
                case atStart => exact ⟨0, by omega, rfl, by rw [P0.out]; exact K6, hb6⟩
                case round =>
                  clear K6 hb6
                  rename World => wz
                  obtain ⟨k9, hk9, rfl, K, hbz⟩ := hrel
                  obtain ⟨⟨c, f⟩, hQ⟩ : ∃ Q : Int × Nat, Hid (ptP (pt xs ys) k l k9 = Q) := ⟨_, rfl⟩
                  rw [hQ.out] at K
                  have zKz := K.lt
                  match k9, hk9 with
                  | 0, _ =>
                    by_cases cl : 0 < l
                    · clear k1
                      clear k2
                      have di : decide ((1 : Int) ≤ (k : Int)) = false := decide_eq_false (by omega)
                      have cj : (1 : Int) ≤ (l : Int) := by omega
                      have N : Hid (ptP (pt xs ys) k l (0 + 1) = (c, f)) := by unfold Hid; rw [ptP_same (.inl ⟨rfl, by omega⟩), hQ.out]
                      have zr : Below wz.heap.size wz (wz.alloc (.cells #[.int .i64 1, .int .i64 1] 71)) := (Below.refl _ _).alloc (Nat.le_refl _) _
                      go_wp2
                      go_quiet (fail)
                      go_wp2
                      exact ⟨⟨0 + 1, by omega, by go_num, by rw [N.out]; exact K.on (below_drewN zr _), below_app hbz (below_drewN zr _) hbz.size⟩, by simp [intOf]⟩
                    · clear k1
                      clear k2
                      have di : decide ((1 : Int) ≤ (k : Int)) = false := decide_eq_false (by omega)
                      have dj : decide ((1 : Int) ≤ (l : Int)) = false := decide_eq_false (by omega)
                      have N : Hid (ptP (pt xs ys) k l (0 + 1) = (c, f)) := by unfold Hid; rw [ptP_same (.inl ⟨rfl, by omega⟩), hQ.out]
                      have zr : Below wz.heap.size wz (wz.alloc (.cells #[.int .i64 1, .int .i64 1] 71)) := (Below.refl _ _).alloc (Nat.le_refl _) _
                      go_wp2
                      go_quiet (fail)
                      go_wp2
                      exact ⟨⟨0 + 1, by omega, by go_num, by rw [N.out]; exact K.on (below_drewN zr _), below_app hbz (below_drewN zr _) hbz.size⟩, by simp [intOf]⟩
                  | 1, _ =>
                    clear k0
                    clear k2
                    have di : decide ((1 : Int) ≤ (k : Int)) = false := decide_eq_false (by omega)
                    have N : Hid (ptP (pt xs ys) k l (1 + 1) = (c, f)) := by unfold Hid; rw [ptP_same (.inr (.inl ⟨rfl, by omega⟩)), hQ.out]
                    have zr : Below wz.heap.size wz (wz.alloc (.cells #[.int .i64 1, .int .i64 0] 71)) := (Below.refl _ _).alloc (Nat.le_refl _) _
                    go_wp2
                    go_quiet (fail)
                    go_wp2
                    exact ⟨⟨1 + 1, by omega, by go_num, by rw [N.out]; exact K.on (below_drewN zr _), below_app hbz (below_drewN zr _) hbz.size⟩, by simp [intOf]⟩
                  | 2, _ =>
                    by_cases cl : 0 < l
                    · clear k0
                      clear k1
                      have cj : (1 : Int) ≤ (l : Int) := by omega
                      obtain ⟨bp, r1, r2⟩ := LF.out
                      obtain ⟨r3, r4⟩ := r2 (l - 1) (by omega)
                      have zb0 := World.block_lt_of_cell? wq _ r1
                      have zb1 := World.block_lt_of_cell? wq _ r3
                      simp only at zb0 zb1
                      replace r1 := cell_on2 hbz r1
                      replace r3 := cell_on2 hbz r3
                      replace r4 := cell_on2 hbz r4
                      clear r2
                      obtain ⟨p1, hp1⟩ : ∃ u, Hid ((pt xs ys k (l - 1)).1 = u) := ⟨_, rfl⟩
                      obtain ⟨p2, hp2⟩ : ∃ u, Hid ((pt xs ys k (l - 1)).2 = u) := ⟨_, rfl⟩
                      rw [hp1.out] at r3
                      rw [hp2.out] at r4
                      have N : Hid (ptP (pt xs ys) k l (2 + 1) = bst (p1, p2) (c, f)) := by unfold Hid; rw [ptP_step (.inr (.inr ⟨rfl, by omega, rfl, rfl⟩)), hQ.out, show pt xs ys k (l - 1) = (p1, p2) from Prod.ext hp1.out hp2.out]
                      have o1 : IntKind.i64.wrap (k : Int) = (k : Int) := IntWalk.i64_in _ (by omega)
                      have o2 : IntKind.i64.wrap ((l : Int) - 1) = ((l : Int) - 1) := IntWalk.i64_in _ (by omega)
                      have o3 : (0 : Int) ≤ (k : Int) := by omega
                      have o4 : (k : Int) < (n : Int) := by omega
                      have o5 : ((k : Int)).toNat = k := by omega
                      have o6 : (0 : Int) ≤ ((l : Int) - 1) := by omega
                      have o7 : ((l : Int) - 1) < (m : Int) := by omega
                      have o8 : (((l : Int) - 1)).toNat = (l - 1) := by omega
                      have zK := K.lt
                      go_wp2_with fail
                      have KA := Blk.new (wz) 71 #[.int .i64 0, .int .i64 1]
                      have hbwa : Below (wz).heap.size (wz) ((wz).alloc (.cells #[.int .i64 0, .int .i64 1] 71)) := (Below.refl _ _).alloc (Nat.le_refl _) _
                      replace K := K.on hbwa
                      generalize (wz).alloc (.cells #[.int .i64 0, .int .i64 1] 71) = wa at *
                      replace r1 := cell_on2 hbwa r1
                      replace r3 := cell_on2 hbwa r3
                      replace r4 := cell_on2 hbwa r4
                      have hbwq := below_app hbz hbwa hbz.size
                      have a0 := KA.cell 0
                      have a1 := KA.cell 1
                      simp only [List.getElem?_toArray, List.getElem?_cons_succ, List.getElem?_cons_zero] at a0 a1
                      have e0 := K.cell 0
                      have e1 := K.cell 1
                      simp only [List.getElem?_toArray, List.getElem?_cons_succ, List.getElem?_cons_zero] at e0 e1
                      have f0 := K.frozen 0
                      have f1 := K.frozen 1
                      have zA := KA.lt
                      have zKa := K.lt
                      have zq0 : w2.heap.size < wa.heap.size := by omega
                      have zq1 : bp < wa.heap.size := by omega
                      have HK := Lib.hid K
                      clear K KA hbz hbwa
                      cases hbt : bet (p1, p2) (c, f) with
                      | false =>
                        have HBET : Hid (bet (p1, p2) (c, f) = false) := hbt
                        replace N : Hid (ptP (pt xs ys) k l (2 + 1) = (c, f)) := by unfold Hid; rw [N.out]; unfold bst; rw [HBET.out]; rfl
                        clear hbt
                        go_region_held3 (fun w' => (∀ b o, b < wa.heap.size → w'.cell? ⟨b, o, none⟩ = wa.cell? ⟨b, o, none⟩) ∧ Below wa.heap.size wa w') (first | exact sk (Below.refl _ _).drew | (go_split_ands; exact sk (below_app ‹_› hbw7 (Below.size ‹_›)))) (first | (go_at_call 46; with_reducible refine (better_any _ _ _ _ _).mono ?_; rw [HBET.out]; rintro e w7 ⟨rfl, hbw7⟩))
                        go_split_ands
                        have hb7 : Below wa.heap.size wa w7 := below_app ((Below.refl _ _).drew) hbw7 (Nat.le_refl _)
                        have hbq7 := below_app hbwq hb7 hbwq.size
                        clear o1 o2 o5 o8
                        go_wp2
                        exact ⟨⟨2 + 1, by omega, by go_num, by rw [N.out]; exact HK.out.on hb7, hbq7⟩, by simp [intOf]⟩
                      | true =>
                        have HBET : Hid (bet (p1, p2) (c, f) = true) := hbt
                        replace N : Hid (ptP (pt xs ys) k l (2 + 1) = (p1, p2)) := by unfold Hid; rw [N.out]; unfold bst; rw [HBET.out]; rfl
                        clear hbt
                        go_region_held3 (fun w' => (∀ b o, b < wa.heap.size → w'.cell? ⟨b, o, none⟩ = wa.cell? ⟨b, o, none⟩) ∧ Below wa.heap.size wa w') (first | exact sk (Below.refl _ _).drew | (go_split_ands; exact sk (below_app ‹_› hbw7 (Below.size ‹_›)))) (first | (go_at_call 46; with_reducible refine (better_any _ _ _ _ _).mono ?_; rw [HBET.out]; rintro e w7 ⟨rfl, hbw7⟩))
                        go_split_ands
                        have hb7 : Below wa.heap.size wa w7 := below_app ((Below.refl _ _).drew) hbw7 (Nat.le_refl _)
                        have hbq7 := below_app hbwq hb7 hbwq.size
                        replace r1 := cell_on2 hb7 r1
                        replace r3 := cell_on2 hb7 r3
                        replace r4 := cell_on2 hb7 r4
                        replace a0 := cell_on2 hb7 a0
                        replace a1 := cell_on2 hb7 a1
                        have K7 := HK.out.on hb7
                        clear e0 e1 f0 f1
                        have e0 := K7.cell 0
                        have e1 := K7.cell 1
                        simp only [List.getElem?_toArray, List.getElem?_cons_succ, List.getElem?_cons_zero] at e0 e1
                        have f0 := K7.frozen 0
                        have f1 := K7.frozen 1
                        have hk1 : wq.heap.size ≠ wz.heap.size := by omega
                        have hk2 : wq.heap.size ≠ w2.heap.size := by omega
                        have hk3 : wq.heap.size ≠ bp := by omega
                        have HK7 := Lib.hid K7
                        clear K7
                        rename ∀ (b o : Nat), b < wa.heap.size → w7.cell? ⟨b, o, none⟩ = wa.cell? ⟨b, o, none⟩ => hSS
                        clear hSS
                        go_wp2_with fail
                        go_region_held3 (fun w' => w'.cell? ⟨wz.heap.size, 0, none⟩ = some (.int .i64 0) ∧ w'.cell? ⟨wz.heap.size, 1, none⟩ = some (.int .i64 1) ∧ w'.cell? ⟨w2.heap.size, k, none⟩ = some (.slice (some ⟨bp, 0, none⟩) m m) ∧ w'.cell? ⟨bp, (l - 1) * 2, none⟩ = some (.int .i64 p1) ∧ w'.cell? ⟨bp, (l - 1) * 2 + 1, none⟩ = some (.int .i64 p2)) (first | exact ⟨a0, a1, r1, r3, r4⟩ | go_keep) (fail)
                        go_split_ands
                        go_wp2
                        clear o1 o2 o5 o8
                        refine ⟨⟨2 + 1, by omega, by go_num, ?_, (by repeat (first | exact Below.refl _ _ | assumption | refine Below.drew ?_ | refine below_drewN ?_ _ | refine Below.alloc ?_ (by first | omega | (simp <;> omega)) _ | refine Below.setCell ?_ (by first | omega | (simp <;> omega)) _))⟩, by simp [intOf]⟩
                        rw [N.out]
                        have K9 := ((HK7.out.set_ 0 (.int .i64 p1)).set_ 1 (.int .i64 p2)).drew
                        simpa using K9
                    · clear k0
                      clear k1
                      have dj : decide ((1 : Int) ≤ (l : Int)) = false := decide_eq_false (by omega)
                      have N : Hid (ptP (pt xs ys) k l (2 + 1) = (c, f)) := by unfold Hid; rw [ptP_same (.inr (.inr ⟨rfl, by omega⟩)), hQ.out]
                      have zr : Below wz.heap.size wz (wz.alloc (.cells #[.int .i64 0, .int .i64 1] 71)) := (Below.refl _ _).alloc (Nat.le_refl _) _
                      go_wp2
                      go_quiet (fail)
                      go_wp2
                      exact ⟨⟨2 + 1, by omega, by go_num, by rw [N.out]; exact K.on (below_drewN zr _), below_app hbz (below_drewN zr _) hbz.size⟩, by simp [intOf]⟩
                  | 3, _ =>
                    have PT : Hid (pt xs ys k l = (c + cst xs ys k l, f)) := by
                      have h9 := pt_eq xs ys k l
                      have h8 : pt3 (pt xs ys) k l = (c, f) := hQ.out
                      unfold Hid
                      rw [h9, h8]
                    have hc9 : -1000 ≤ c ∧ c ≤ 100000 := by have h9 := RG.out; rw [hQ.out] at h9; exact h9
                    obtain ⟨hc0, hc1⟩ := hc9
                    obtain ⟨b0, off0, x, y, d, rfl, hbl0, hx, q0, q1, q2⟩ := (HR.out.below (HBq.out.trans (hbz.mono (by omega)))).at3 hlt
                    obtain ⟨b1, off1, x', y', d', rfl, hbl1, hx', p0, p1, p2⟩ := (HR'.out.below (HBq.out.trans (hbz.mono (by omega)))).at3 hlt'
                    have V1 : featB x y d = true := all_at (p := featOk) (x := (x, y, d)) HA.out hx.out
                    have V2 : featB x' y' d' = true := all_at (p := featOk) (x := (x', y', d')) HB.out hx'.out
                    obtain ⟨cb0, cb1⟩ := costF_bd (a := (x, y, d)) (b := (x', y', d')) V1 V2
                    have V1 := Lib.hid V1
                    have V2 := Lib.hid V2
                    have CST : Hid (cst xs ys k l = costF (x, y, d) (x', y', d')) := by unfold Hid cst; rw [getD_of hx.out, getD_of hx'.out]
                    have o1 : IntKind.i64.wrap (c + costF (x, y, d) (x', y', d')) = c + costF (x, y, d) (x', y', d') := IntWalk.i64_in _ (by omega)
                    have i1 : (k : Int) < (n : Int) := by omega
                    have i2 : (0 : Int) ≤ (k : Int) := by omega
                    have zb0 : b0 < wz.heap.size := by omega
                    have zb1 : b1 < wz.heap.size := by omega
                    have e0 := K.cell 0
                    have e1 := K.cell 1
                    simp only [List.getElem?_toArray, List.getElem?_cons_succ, List.getElem?_cons_zero] at e0 e1
                    have fz0 := K.frozen 0
                    have fz1 := K.frozen 1
                    have HK := Lib.hid K
                    have HBZ := Lib.hid hbz
                    clear K k0 k1 k2
                    go_wp2_with fail
                    go_cut [] from 1000 (fun w' => Below wq.heap.size wq w' ∧ Blk w' wq.heap.size 70 #[.int .i64 (c + costF (x, y, d) (x', y', d')), .int .i64 f])
                    case first =>
                      go_region_with ((go_at_call 47; with_reducible refine (featCost_any x y d x' y' d' _ V1.out V2.out).mono ?_; rintro e w8 ⟨rfl, hbx8⟩; have hbw8 : Below wz.heap.size wz w8 := below_app ((Below.refl _ _).drew) hbx8 (Nat.le_refl _); clear hbx8; have z8 := hbw8.size; replace e0 := cell_on2 hbw8 e0; replace e1 := cell_on2 hbw8 e1; replace fz0 := (hbw8.frozen (p := ⟨wq.heap.size, 0, none⟩) zKz).trans fz0; replace q0 := cell_on2 hbw8 q0; replace q1 := cell_on2 hbw8 q1; replace q2 := cell_on2 hbw8 q2; replace p0 := cell_on2 hbw8 p0; replace p1 := cell_on2 hbw8 p1; replace p2 := cell_on2 hbw8 p2))
                      all_goals (go_wp2; go_meet; exact ⟨(below_app HBZ.out hbw8 HBZ.out.size).setCell (Nat.le_refl _) _, (HK.out.on hbw8).set_ 0 (.int .i64 (c + costF (x, y, d) (x', y', d')))⟩)
                    case rest =>
                      obtain ⟨hbx, K8⟩ := hcut
                      clear HK HBZ e0 e1 fz0 q0 q1 q2 p0 p1 p2
                      have hox := own_below HO.out hbx
                      have tz := cell_on2 hbx TC.out
                      obtain ⟨⟨v5, g5⟩, f5⟩ := own_cell hox (j := l * 2) (by omega)
                      obtain ⟨⟨v6, g6⟩, f6⟩ := own_cell hox (j := l * 2 + 1) (by omega)
                      have zK8 := K8.lt
                      have e0 := K8.cell 0
                      have e1 := K8.cell 1
                      simp only [List.getElem?_toArray, List.getElem?_cons_succ, List.getElem?_cons_zero] at e0 e1
                      have zgz : gk < wc.heap.size := by omega
                      have hk3 : gk ≠ wq.heap.size := by omega
                      have hk4 : gk ≠ w2.heap.size := by omega
                      have PT' : Hid (cq (pt xs ys k l) = (c + costF (x, y, d) (x', y', d'), (f : Int))) := by unfold Hid cq; rw [PT.out, CST.out]
                      have W1 := put2 hox (rowQ_len (pt xs ys) k l) hlt' (c + costF (x, y, d) (x', y', d')) f
                      rw [← PT'.out, ← rowQ_step] at W1
                      have HW1 := Lib.hid W1
                      clear W1 hox K8
                      go_wp2_with fail
                      go_region_held3 (fun w' => w'.cell? ⟨w2.heap.size, k, none⟩ = some (.slice (some ⟨gk, 0, none⟩) m m) ∧ w'.cell? ⟨wq.heap.size, 0, none⟩ = some (.int .i64 (c + costF (x, y, d) (x', y', d'))) ∧ w'.cell? ⟨wq.heap.size, 1, none⟩ = some (.int .i64 f)) (first | exact ⟨tz, e0, e1⟩ | go_keep) (fail)
                      go_split_ands
                      go_wp2
                      refine ⟨⟨l + 1, by omega, by go_num, ?_, HW1.out.drew⟩, by simp [intOf]; omega⟩
                      exact (((HB3.out.trans (hbx.mono (by omega))).setCell (p := ⟨gk, l * 2, none⟩) (Nat.le_refl _) _).setCell (p := ⟨gk, l * 2 + 1, none⟩) (Nat.le_refl _) _).drew
            · have hlm' : l = m := by omega
              subst hlm'
              have hbr := HBT.out.trans (hb3.mono (by have := hsz; omega))
              have hw4 := own_belowB HWT.out hb3 hsz
              rw [Nat.sub_self, Nat.zero_mul, List.replicate_zero, List.append_nil] at ho
              have HO := Lib.hid ho
              clear ho
              go_wp2
              refine ⟨⟨k + 1, rs ++ [gk], by omega, by go_num, by have := hrs.out; simp [Hid, this], hbr, hw4, fun r b hrb => ?_⟩, by simp [intOf]; omega⟩
              by_cases hrk : r < k
              · rw [List.getElem?_append_left (by have := hrs.out; omega)] at hrb
                obtain ⟨q1, q2, q3⟩ := hrows2.out r b hrb
                exact ⟨q1, by have := hb3.size; omega, fun s hs => ⟨(hb3.cell (p := ⟨b, s * 2, none⟩) q2).trans (q3 s hs).1, (hb3.cell (p := ⟨b, s * 2 + 1, none⟩) q2).trans (q3 s hs).2⟩⟩
              · have hrl : r < (rs ++ [gk]).length := (List.getElem?_eq_some_iff.1 hrb).1
                obtain rfl : r = k := by have := hrs.out; simp at hrl; omega
                have hbg : b = gk := by rw [List.getElem?_append_right (by have := hrs.out; omega)] at hrb; have := hrs.out; simp [this] at hrb; exact hrb.symm
                subst hbg
                refine ⟨hsz, by have := hb3.size; omega, fun s hs => ?_⟩
                exact rowQ_cell (n := l) (l := l) (z := .int .i64 0) (by simpa using HO.out) (Nat.le_refl _) hs
        · have hkn : k = n := by omega
          subst hkn
          obtain ⟨b, hb⟩ : ∃ b, rs[k - 1]? = some b := ⟨_, List.getElem?_eq_getElem (by have := hrs.out; omega)⟩
          obtain ⟨q1, q2, q3⟩ := hrows.out _ _ hb
          have tc := tabV_cell hw (Nat.le_refl _) hrs.out hb
          have HC := Lib.hid q3
          have hzg := Nat.lt_trans q1 q2
          have HBR := Lib.hid hbr
          clear hw hrows hbr q3 hb k0 k1 k2
          have o1 : IntKind.i64.wrap ((k : Int) - 1) = (k : Int) - 1 := IntWalk.i64_in _ (by omega)
          have o3 : (0 : Int) ≤ (k : Int) - 1 := by omega
          have o4 : (k : Int) - 1 < (k : Int) := by omega
          have o5 : ((k : Int) - 1).toNat = k - 1 := by omega
          go_wp2
          clear o1 o3 o4 o5
          go_loopw [15, 16, 17, 125] (fun t _ _ q wz => ∃ (j t' : Nat), j ≤ m ∧ q = .int .i64 j ∧ t = .int .i64 t' ∧ Hid (fmn (fun s => (pt xs ys (k - 1) s).1) j = t') ∧ Below wr.heap.size wr wz) (fun _ _ _ q _ => m - (intOf q).toNat)
          case atStart => exact ⟨0, 0, by omega, rfl, rfl, rfl, Below.refl _ _⟩
          case round =>
            rename World => wz
            obtain ⟨j, t, hj, rfl, rfl, ht, hbz⟩ := hrel
            have htm : t < m := by have := fmn_lt (c := fun s => (pt xs ys (k - 1) s).1) hj hm1; rw [ht.out] at this; exact this
            obtain ⟨c0, c1⟩ := HC.out t htm
            replace c0 := cell_on2 hbz c0
            replace c1 := cell_on2 hbz c1
            obtain ⟨u0, hu0⟩ : ∃ u, Hid ((pt xs ys (k - 1) t).1 = u) := ⟨_, rfl⟩
            obtain ⟨u1, hu1⟩ : ∃ u, Hid ((pt xs ys (k - 1) t).2 = u) := ⟨_, rfl⟩
            rw [hu0.out] at c0
            rw [hu1.out] at c1
            have z3 := hbz.size
            have z2 : b < wz.heap.size := Nat.lt_of_lt_of_le q2 z3
            have j2 : (0 : Int) ≤ (t : Int) := by omega
            have j3 : (t : Int) < (m : Int) := by omega
            by_cases hjm : j < m
            · obtain ⟨d0, d1⟩ := HC.out j hjm
              replace d0 := cell_on2 hbz d0
              replace d1 := cell_on2 hbz d1
              obtain ⟨v0, hv0⟩ : ∃ u, Hid ((pt xs ys (k - 1) j).1 = u) := ⟨_, rfl⟩
              obtain ⟨v1, hv1⟩ : ∃ u, Hid ((pt xs ys (k - 1) j).2 = u) := ⟨_, rfl⟩
              rw [hv0.out] at d0
              rw [hv1.out] at d1
              have j4 : (0 : Int) ≤ (j : Int) := by omega
              have j5 : (j : Int) < (m : Int) := by omega
              by_cases hcm : v0 < u0
              · have N : Hid (fmn (fun s => (pt xs ys (k - 1) s).1) (j + 1) = j) := fmn_yes (c := fun s => (pt xs ys (k - 1) s).1) (by show (pt xs ys (k - 1) j).1 < (pt xs ys (k - 1) (fmn (fun s => (pt xs ys (k - 1) s).1) j)).1; rw [ht.out, hv0.out, hu0.out]; exact hcm)
                go_wp2
                go_quiet (fail)
                go_wp2
                exact ⟨⟨j + 1, j, by omega, by go_num, rfl, N, (by repeat (first | exact Below.refl _ _ | assumption | refine Below.drew ?_ | refine below_drewN ?_ _ | refine Below.alloc ?_ (by first | omega | (simp <;> omega)) _ | refine Below.setCell ?_ (by first | omega | (simp <;> omega)) _))⟩, by simp [intOf]; omega⟩
              · have N : Hid (fmn (fun s => (pt xs ys (k - 1) s).1) (j + 1) = t) := by unfold Hid; rw [fmn_no (c := fun s => (pt xs ys (k - 1) s).1) (by show ¬ (pt xs ys (k - 1) j).1 < (pt xs ys (k - 1) (fmn (fun s => (pt xs ys (k - 1) s).1) j)).1; rw [ht.out, hv0.out, hu0.out]; exact hcm)]; exact ht.out
                go_wp2
                go_quiet (fail)
                go_wp2
                exact ⟨⟨j + 1, t, by omega, by go_num, rfl, N, (by repeat (first | exact Below.refl _ _ | assumption | refine Below.drew ?_ | refine below_drewN ?_ _ | refine Below.alloc ?_ (by first | omega | (simp <;> omega)) _ | refine Below.setCell ?_ (by first | omega | (simp <;> omega)) _))⟩, by simp [intOf]; omega⟩
            · have hjk : j = m := by omega
              subst hjk
              have hR : Hid (peR xs ys = (u0, u1, t + 1)) := by
                unfold Hid
                rw [F.out.2]
                unfold psA
                rw [if_neg (by have := hl'.out; omega), hl.out, hl'.out, ht.out, hu0.out, hu1.out]
              have o1 : IntKind.i64.wrap ((t : Int) + 1) = (t : Int) + 1 := IntWalk.i64_in _ (by omega)
              go_wp2
              go_quiet (fail)
              go_wp2
              rw [F.out.1, hR.out]
              exact bodyPost_ret (v := .tuple #[.int .i64 u0, .int .i64 u1, .int .i64 ((t : Int) + 1), .int .i64 0]) (by simp [results, Try.results13, go_sem]) rfl ⟨rfl, below_drewN (below_app (below_app hB2.out HBR.out hB2.out.size) hbz (by have := hB2.out.size; have := HBR.out.size; omega)) _⟩
end Go.Proofs.Ytfbcnojnpjbghaa
