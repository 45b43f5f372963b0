/- The program's table of elastic matching, walked; Elastic of the program. -/
import Derived.Test.YtkldejbhhbgefaaIb
import Derived.Test.YtkldejbhhbgefaaEs
namespace Go.Proofs.Ytkldejbhhbgefaa
open Go.ChangeShapes Go.WideShapes Go.ChangeAt Go.RowKit
theorem own_belowB {w w' : World} {B base : Nat} {e : TypeId} {s n c g : Nat} {xs : List Value} (h : w.ownsRow base e s (.slice (some ⟨g, 0, none⟩) n c) n xs) (hb : Below B w w') (hg : g < B) : w'.ownsRow base e s (.slice (some ⟨g, 0, none⟩) n c) n xs := by
  obtain ⟨h1, h2⟩ := h
  refine ⟨h1, ?_⟩
  rcases h2 with h2 | ⟨g', cap, cur, hv, hg', hh, r⟩
  · exact .inl h2
  · cases hv
    exact .inr ⟨g, c, cur, rfl, hg', (hb.block g hg).trans hh, r⟩
theorem sk2 {W w' : World} {B : Nat} (h : Below B W w') : (∀ b o, b < B → w'.cell? ⟨b, o, none⟩ = W.cell? ⟨b, o, none⟩) ∧ Below B W w' := ⟨fun b o hb => h.cell (p := ⟨b, o, none⟩) hb, h⟩
def rowV (m b : Nat) : Value := .slice (some ⟨b, 0, none⟩) m m
/-- A table of n rows of m numbers, as it reads. -/
def CT (w : World) (g n m : Nat) (F : Nat → Nat → Int) : Prop := ∀ r, r < n → ∃ b, w.cell? ⟨g, r, none⟩ = some (.slice (some ⟨b, 0, none⟩) m m) ∧ ∀ s, s < m → w.cell? ⟨b, s, none⟩ = some (.int .i64 (F r s))
theorem CT.on {w w' : World} {g n m : Nat} {F : Nat → Nat → Int} (h : CT w g n m F) (hb : Below w.heap.size w w') : CT w' g n m F := fun r hr => by
  obtain ⟨b, h1, h2⟩ := h r hr
  exact ⟨b, cell_on2 hb h1, fun s hs => cell_on2 hb (h2 s hs)⟩
theorem CT.ahd {w : World} {g n m i j : Nat} {F : Nat → Nat → Int} (h : CT w g n m F) (hi : i < n) (hj : j < m) : Ahd w g m i j F := by
  refine ⟨fun h0 => ?_, fun h0 => ?_⟩
  · obtain ⟨b, h1, h2⟩ := h (i - 1) (by omega)
    exact ⟨b, m, h1, h2⟩
  · obtain ⟨b, h1, h2⟩ := h i hi
    exact ⟨b, m, h1, fun s hs => h2 s (by omega)⟩
def rowF (F : Nat → Nat → Int) (k l : Nat) : List Int := (List.range l).map (F k)
theorem rowF_len (F : Nat → Nat → Int) (k l : Nat) : (rowF F k l).length = l := by simp [rowF]
theorem rowF_step (F : Nat → Nat → Int) (k l : Nat) : rowF F k (l + 1) = rowF F k l ++ [F k l] := by simp [rowF, List.range_succ]
theorem rowF_at (F : Nat → Nat → Int) {k l s : Nat} (h : s < l) : (rowF F k l)[s]? = some (F k s) := by simp [rowF, h]
theorem row_cell {w : World} {base e g n l s : Nat} {F : Nat → Nat → Int} {k : Nat} (h : w.ownsRow base e 1 (.slice (some ⟨g, 0, none⟩) n n) n ((rowF F k l).flatMap c1 ++ List.replicate (n - l) (.int .i64 0))) (hl : l ≤ n) (hs : s < l) :
    w.cell? ⟨g, s, none⟩ = some (.int .i64 (F k s)) := by
  rw [h.cellAt s (by omega), List.getElem?_append_left (by rw [flat_len c1_len, rowF_len]; omega)]
  have := flat_get c1_len (rowF F k l) s 0 _ (rowF_at F hs) (by omega)
  rw [show s * 1 + 0 = s by omega] at this
  rw [this]; rfl
theorem tabV_cell {w : World} {base e g n k : Nat} {m : Nat} {rs : List Nat} {r b : Nat} (h : w.ownsRow base e 1 (.slice (some ⟨g, 0, none⟩) n n) n (rs.map (rowV m) ++ List.replicate (n - k) (.slice none 0 0))) (hk : k ≤ n) (hl : rs.length = k) (hr : rs[r]? = some b) :
    w.cell? ⟨g, r, none⟩ = some (.slice (some ⟨b, 0, none⟩) m m) := by
  have hlt : r < k := by have := (List.getElem?_eq_some_iff.1 hr).1; omega
  rw [h.cellAt r (by omega), List.getElem?_append_left (by simp; omega), List.getElem?_map, hr]; rfl
theorem tabV_set {w : World} {base e g n k m : Nat} {rs : List Nat} (h : w.ownsRow base e 1 (.slice (some ⟨g, 0, none⟩) n n) n (rs.map (rowV m) ++ List.replicate (n - k) (.slice none 0 0))) (hl : rs.length = k) (hk : k < n) (b : Nat) :
    (w.setCell ⟨g, k, none⟩ (.slice (some ⟨b, 0, none⟩) m m)).ownsRow base e 1 (.slice (some ⟨g, 0, none⟩) n n) n ((rs ++ [b]).map (rowV m) ++ List.replicate (n - (k + 1)) (.slice none 0 0)) := by
  have h1 := (h.stored k (.slice (some ⟨b, 0, none⟩) m m)).1
  rw [show n - k = (n - (k + 1)) + 1 by omega, set_one (by simp [hl])] at h1
  simpa [rowV] using h1
theorem madeS (n : Nat) : (madeCells (Value.slice none 0 0).cells n).toList = List.replicate n (.slice none 0 0) :=
  made_rep _ _ 1 n rfl (fun j hj => by match j, hj with | 0, _ => rfl) (by decide)
theorem lbF_nonneg {inf : Int} {F : Nat → Nat → Int} {i j : Nat} (h0 : 0 ≤ inf) (h : ∀ r s, (r < i ∧ s ≤ j) ∨ (r = i ∧ s < j) → 0 ≤ F r s) : 0 ≤ lbF inf F i j := by
  match i, j with
  | 0, 0 => exact h0
  | 0, j + 1 => have := h 0 j (by omega); simp only [lbF]; omega
  | i + 1, 0 => have := h i 0 (by omega); simp only [lbF]; omega
  | i + 1, j + 1 => have := h i j (by omega); have := h i (j + 1) (by omega); have := h (i + 1) j (by omega); simp only [lbF]; omega
theorem Try.infoSl : (Try.prog.info? 26).map (fun i => (i.zero, i.size, i.bytes)) = some (some (.slice none 0 0), 1, 24) := by kernel_rfl
set_option maxRecDepth 100000 in
set_option maxHeartbeats 20000000 in
theorem costTable_any (A B : Option Addr) (n ca m cb : Nat) (xs ys : List T3) (band : Int) (w : World) (hr : RdL c3 3 w w.heap.size A n ca xs) (hr' : RdL c3 3 w w.heap.size B m cb ys)
    (ha : xs.all featOk = true) (hb : ys.all featOk = true) (hn1 : 1 ≤ n) (hn : n ≤ 72) (hm1 : 1 ≤ m) (hm : m ≤ 72) (h0 : 0 ≤ band) (h1 : band ≤ 72) :
    Calls Try.prog 124 #[.slice A n ca, .slice B m cb, .int .i64 band] w fun e w' => e = .returned (.slice (some ⟨w.heap.size, 0, none⟩) n n) ∧ CT w' w.heap.size n m (tb 1099511627776 xs ys band) ∧ w.heap.size < w'.heap.size ∧ Below w.heap.size w w' := by
  obtain ⟨i0, hi, hz0, hz1, hz2⟩ := info_parts Try.infoInt64
  obtain ⟨i1, gi, gz0, gz1, gz2⟩ := info_parts Try.infoSl
  have hl := Lib.hid hr.len
  have hl' := Lib.hid hr'.len
  have HA := Lib.hid ha
  have HB := Lib.hid hb
  clear ha hb
  go_enter Try.func124, Try.ntmps124
  go_wp2_with (refine wpList_make_full _ rfl _ _ _ rfl w.heap.size 26 i1 _ 1 Try.underlying153 gi gz0 gz1 .i64 .i64 n n n rfl rfl rfl rfl (by rw [gz2]; omega) (by unfold maxLen; omega) (Nat.le_refl _) ?_; intro w1 hown hg)
  rw [madeS] at hown
  have hB1 : Below w.heap.size w w1 := (Below.refl _ _).grown hg (Nat.le_refl _) (fun k h => by cases h)
  clear hg
  go_loopw [8, 9, 10, 16] (fun _ _ _ i wr => ∃ (k : Nat) (rs : List Nat), k ≤ n ∧ i = .int .i64 k ∧ Hid (rs.length = k) ∧ Below w.heap.size w wr ∧
      wr.ownsRow w.heap.size 26 1 (.slice (some ⟨w.heap.size, 0, none⟩) n n) n (rs.map (rowV m) ++ List.replicate (n - k) (.slice none 0 0)) ∧
      Hid (∀ r b, rs[r]? = some b → w.heap.size < b ∧ b < wr.heap.size ∧ ∀ s, s < m → wr.cell? ⟨b, s, none⟩ = some (.int .i64 ((tb 1099511627776 xs ys band) r s)))) (fun _ _ _ i _ => n - (intOf i).toNat)
  case atStart => exact ⟨0, [], by omega, rfl, rfl, hB1, by simpa using hown, fun r b h => by simp at h⟩
  case round =>
    obtain ⟨k, rs, hk, rfl, hrs, hbr, hw, hrows⟩ := hrel
    clear hown hB1
    by_cases hlt : k < n
    · obtain ⟨⟨v0, e0⟩, f0⟩ := own_cell hw (j := k) (by omega)
      have hsz := World.block_lt_of_cell? wr _ e0
      have j0 : (0 : Int) ≤ (k : Int) := by omega
      have j1 : (k : Int) < (n : Int) := by omega
      obtain ⟨b9, off9, x9, y9, d9, hA9, hbl9, hx9, r0, r1, r2⟩ := (hr.below hbr).at3 hlt
      subst hA9
      clear r0 r1 r2
      have hx := hx9
      clear hx9
      go_wp2_with (refine wpList_make_full _ rfl _ _ _ rfl wr.heap.size 2 i0 _ 1 Try.underlying26 hi hz0 hz1 .i64 .i64 m m m rfl rfl rfl rfl (by rw [hz2]; omega) (by unfold maxLen; omega) (Nat.le_refl _) ?_; intro w2 hown2 hg2; have hb2 : Below wr.heap.size wr w2 := (Below.refl _ _).grown hg2 (Nat.le_refl _) (fun k h => by cases h); replace e0 := cell_on2 hb2 e0; replace f0 := (hb2.frozen (p := ⟨w.heap.size, k, none⟩) hsz).trans f0)
      rw [made1] at hown2
      have hw2 := tabV_set (own_below hw hb2) hrs.out hlt wr.heap.size
      have ho2 := ownsRow_setCell_below hown2 (a := ⟨w.heap.size, k, none⟩) hsz (.slice (some ⟨wr.heap.size, 0, none⟩) m m)
      have hB2 : Below w.heap.size w (w2.setCell ⟨w.heap.size, k, none⟩ (.slice (some ⟨wr.heap.size, 0, none⟩) m m)) := (below_on hb2 hbr).setCell (Nat.le_refl _) _
      have hrows2 : Hid (∀ r b, rs[r]? = some b → w.heap.size < b ∧ b < wr.heap.size ∧ ∀ s, s < m → (w2.setCell ⟨w.heap.size, k, none⟩ (.slice (some ⟨wr.heap.size, 0, none⟩) m m)).cell? ⟨b, s, none⟩ = some (.int .i64 ((tb 1099511627776 xs ys band) r s))) := fun r b hrb => by
        obtain ⟨q1, q2, q3⟩ := hrows.out r b hrb
        refine ⟨q1, q2, fun s hs => ?_⟩
        rw [World.cell?_setCell_other _ _ _ _ (by intro e; have := congrArg Addr.block e; simp only at this; omega)]
        exact cell_on2 hb2 (q3 s hs)
      have hz3 : wr.heap.size < (w2.setCell ⟨w.heap.size, k, none⟩ (.slice (some ⟨wr.heap.size, 0, none⟩) m m)).heap.size := by obtain ⟨q, hq, _, hq2⟩ := own_at hown2 (by omega); cases hq; simpa [World.setCell] using hq2
      clear hown2 hg2 hb2 e0 f0 hw hrows hbr
      generalize w2.setCell ⟨w.heap.size, k, none⟩ (.slice (some ⟨wr.heap.size, 0, none⟩) m m) = w3 at *
      generalize wr.heap.size = gk at *
      clear w2
      have tcell := tabV_cell (r := k) (b := gk) hw2 (by omega) (by have := hrs.out; simp [this]) (by have := hrs.out; simp [← this])
      go_wp2
      go_loopw [9, 10, 27] (fun _ _ j wr => ∃ l : Nat, l ≤ m ∧ j = .int .i64 l ∧ Below gk w3 wr ∧ wr.ownsRow gk 2 1 (.slice (some ⟨gk, 0, none⟩) m m) m ((rowF (tb 1099511627776 xs ys band) k l).flatMap c1 ++ List.replicate (m - l) (.int .i64 0))) (fun _ _ j _ => m - (intOf j).toNat)
      case atStart => exact ⟨0, by omega, rfl, Below.refl _ _, by simpa [rowF] using ho2⟩
      case round =>
        clear ho2
        obtain ⟨l, hlm, rfl, hb3, ho⟩ := hrel
        by_cases hlt' : l < m
        · have AH : Ahd wr w.heap.size m k l (tb 1099511627776 xs ys band) := by
            refine ⟨fun hk0 => ?_, fun hl0 => ?_⟩
            · obtain ⟨b, hb⟩ : ∃ b, rs[k - 1]? = some b := ⟨_, List.getElem?_eq_getElem (by have := hrs.out; omega)⟩
              obtain ⟨q1, q2, q3⟩ := hrows2.out _ _ hb
              have tc := tabV_cell (r := k - 1) (b := b) hw2 (by omega) (by have := hrs.out; simp [this]) (by rw [List.getElem?_append_left (by have := hrs.out; omega)]; exact hb)
              exact ⟨b, m, (hb3.cell (p := ⟨w.heap.size, k - 1, none⟩) hsz).trans tc, fun s hs => (hb3.cell (p := ⟨b, s, none⟩) q2).trans (q3 s hs)⟩
            · exact ⟨gk, m, (hb3.cell (p := ⟨w.heap.size, k, none⟩) hsz).trans tcell, fun s hs => row_cell ho (by omega) hs⟩
          obtain ⟨b0, off0, x, y, d, hA, hbl, hx0, q0, q1, q2⟩ := (hr.below hB2).at3 hlt
          obtain ⟨b1, off1, x', y', d', hB', hbl', hx', p0, p1, p2⟩ := (hr'.below hB2).at3 hlt'
          obtain ⟨rfl, rfl⟩ : b9 = b0 ∧ off9 = off0 := by cases hA; exact ⟨rfl, rfl⟩
          subst hB'
          have hx : Hid (xs[k]? = some (x, y, d)) := hx0
          have V1 : featB x y d = true := all_at (p := featOk) (x := (x, y, d)) HA.out hx.out
          have V2 : featB x' y' d' = true := all_at (p := featOk) (x := (x', y', d')) HB.out hx'.out
          obtain ⟨cb0, cb1⟩ := costF_bd (a := (x, y, d)) (b := (x', y', d')) V1 V2
          have V1 := Lib.hid V1
          have V2 := Lib.hid V2
          have RG := Lib.hid (fun (i j : Nat) (hi : i < n) (hj : j < m) => tb_range (inf := 1099511627776) HA.out HB.out (by have := hl.out; omega) (by have := hl'.out; omega) h0 (by omega) (i := i) (j := j) (by have := hl.out; omega) (by have := hl'.out; omega))
          have TE := Lib.hid (tb_eq 1099511627776 xs ys band k l)
          have j2 : (0 : Int) ≤ (l : Int) := by omega
          have j3 : (l : Int) < (m : Int) := by omega
          have HLN := lbF_nonneg (inf := 1099511627776) (F := (tb 1099511627776 xs ys band)) (i := k) (j := l) (by omega) (fun r s hrs' => (RG.out r s (by omega) (by omega)).1)
          have HLE := lbF_le 1099511627776 (tb 1099511627776 xs ys band) k l
          obtain ⟨bl, hblv⟩ : ∃ bl, Hid (lbF 1099511627776 (tb 1099511627776 xs ys band) k l = bl) := ⟨_, rfl⟩
          rw [hblv.out] at HLN HLE
          have hz5 := hb3.size
          have q0 := q0
          have hgb : b9 < gk := by omega
          have hgb' : b1 < gk := by omega
          have hbw4x : gk ≤ wr.heap.size := by omega
          have A9 := Lib.hid AH
          clear AH hr hr' hA hbl9
          go_wp2_with fail
          with_reducible refine (leastBefore_any _ n _ m k l (tb 1099511627776 xs ys band) _ hlt hlt' (by omega) (by omega) A9.out).mono ?_
          rintro e w4 ⟨rfl, hbw4⟩
          rw [hblv.out]
          have ho4 := own_below ho hbw4
          have hb4 : Below gk w3 w4 := below_app hb3 hbw4 hbw4x
          have hg4 : gk ≤ w4.heap.size := by have := hbw4.size; omega
          have tc4 := (hb4.cell (p := ⟨w.heap.size, k, none⟩) hsz).trans tcell
          obtain ⟨⟨v5, e5⟩, f5⟩ := own_cell ho4 (j := l) (by omega)
          have hlN : l < m * 1 := by omega
          clear ho hb3 hbw4
          have B1 := fun (h : k ≤ 0) => (by simp; omega : ((k : Int) == 0) = true)
          have B2 := fun (h : l ≤ 0) => (by simp; omega : ((l : Int) == 0) = true)
          have B3 := fun (h : 0 < k) => (by simp; omega : ((k : Int) == 0) = false)
          have B4 := fun (h : 0 < l) => (by simp; omega : ((l : Int) == 0) = false)
          by_cases c1' : k ≤ 0
          · replace B1 := B1 c1'
            clear B3
            by_cases c2' : l ≤ 0
            · replace B2 := B2 c2'
              clear B4
              have AH : Hid (ahead 1099511627776 (tb 1099511627776 xs ys band) k l = 0) := by unfold Hid ahead; rw [if_pos ⟨by omega, by omega⟩]
              by_cases t2 : band < (((k : Int) - (l : Int)).natAbs : Int)
              · exact absurd t2 (by omega)
              · have HF : Hid ((tb 1099511627776 xs ys band) k l = costF (x, y, d) (x', y', d')) := by unfold Hid; have h9 := fin_cost (inf := 1099511627776) (band := band) (best := 0) (by omega) (show away k l ≤ band by unfold away; omega) hx.out hx'.out; rw [TE.out, AH.out, h9]; omega
                have o1 : IntKind.i64.wrap (costF (x, y, d) (x', y', d')) = costF (x, y, d) (x', y', d') := IntWalk.i64_in _ (by omega)
                go_wp2_with (first | (go_at_call 85; with_reducible refine (abs_any _ _ (by omega) (by omega)).mono ?_; rintro e w' ⟨rfl, rfl⟩))
                go_region_held3 (fun w' => (∀ b o, b < gk → w'.cell? ⟨b, o, none⟩ = w3.cell? ⟨b, o, none⟩) ∧ Below gk w3 w') (first | exact sk2 hb4.drew | (go_split_ands; first | exact sk2 (below_app ‹_› hbw5 (by have := Below.size ‹Below gk w3 _›; omega)) | exact sk2 (Below.setCell (below_app hb4.drew hbw5 hg4) (Nat.le_refl _) _))) (first | (go_at_call 108; with_reducible refine (featCost_any x y d x' y' d' _ V1.out V2.out).mono ?_; rintro e w5 ⟨rfl, hbw5⟩; have ho5 := own_below (own_below ho4 ((Below.refl _ _).drew)) hbw5; obtain ⟨⟨v1, e1⟩, f1⟩ := own_cell ho5 (j := l) hlN))
                go_split_ands
                have hbx : Below gk w3 w5 := below_app hb4.drew hbw5 hg4
                clear o1
                go_wp2
                refine ⟨⟨l + 1, by omega, by go_num, hbx.setCell (Nat.le_refl _) _, ?_⟩, by simp [intOf]; omega⟩
                rw [rowF_step, HF.out]
                exact put1 ho5 (rowF_len _ _ _) hlt' _
            · replace B4 := B4 (by omega)
              have c3 : 0 < l := by omega
              clear B2 c2'
              have AH : Hid (ahead 1099511627776 (tb 1099511627776 xs ys band) k l = bl) := by unfold Hid ahead; rw [if_neg (by omega)]; exact hblv.out
              by_cases t2 : band < (((k : Int) - (l : Int)).natAbs : Int)
              · have HF : Hid ((tb 1099511627776 xs ys band) k l = 1099511627776) := by unfold Hid; rw [TE.out, AH.out]; exact fin_inf (.inr t2)
                go_wp2_with (first | (go_at_call 85; with_reducible refine (abs_any _ _ (by omega) (by omega)).mono ?_; rintro e w' ⟨rfl, rfl⟩))
                refine ⟨⟨l + 1, by omega, by go_num, hb4.setCell (Nat.le_refl _) _, ?_⟩, by simp [intOf]; omega⟩
                rw [rowF_step, HF.out]
                exact put1 ho4 (rowF_len _ _ _) hlt' _
              · by_cases t1 : 1099511627776 ≤ bl
                · have HF : Hid ((tb 1099511627776 xs ys band) k l = 1099511627776) := by unfold Hid; rw [TE.out, AH.out]; exact fin_inf (.inl t1)
                  go_wp2_with (first | (go_at_call 85; with_reducible refine (abs_any _ _ (by omega) (by omega)).mono ?_; rintro e w' ⟨rfl, rfl⟩))
                  refine ⟨⟨l + 1, by omega, by go_num, hb4.setCell (Nat.le_refl _) _, ?_⟩, by simp [intOf]; omega⟩
                  rw [rowF_step, HF.out]
                  exact put1 ho4 (rowF_len _ _ _) hlt' _
                · have HF : Hid ((tb 1099511627776 xs ys band) k l = bl + costF (x, y, d) (x', y', d')) := by unfold Hid; have h9 := fin_cost (inf := 1099511627776) (band := band) (best := bl) (by omega) (show away k l ≤ band by unfold away; omega) hx.out hx'.out; rw [TE.out, AH.out, h9]
                  have o1 : IntKind.i64.wrap (bl + costF (x, y, d) (x', y', d')) = bl + costF (x, y, d) (x', y', d') := IntWalk.i64_in _ (by omega)
                  go_wp2_with (first | (go_at_call 85; with_reducible refine (abs_any _ _ (by omega) (by omega)).mono ?_; rintro e w' ⟨rfl, rfl⟩))
                  go_region_held3 (fun w' => (∀ b o, b < gk → w'.cell? ⟨b, o, none⟩ = w3.cell? ⟨b, o, none⟩) ∧ Below gk w3 w') (first | exact sk2 hb4.drew | (go_split_ands; first | exact sk2 (below_app ‹_› hbw5 (by have := Below.size ‹Below gk w3 _›; omega)) | exact sk2 (Below.setCell (below_app hb4.drew hbw5 hg4) (Nat.le_refl _) _))) (first | (go_at_call 108; with_reducible refine (featCost_any x y d x' y' d' _ V1.out V2.out).mono ?_; rintro e w5 ⟨rfl, hbw5⟩; have ho5 := own_below (own_below ho4 ((Below.refl _ _).drew)) hbw5; obtain ⟨⟨v1, e1⟩, f1⟩ := own_cell ho5 (j := l) hlN))
                  go_split_ands
                  have hbx : Below gk w3 w5 := below_app hb4.drew hbw5 hg4
                  clear o1
                  go_wp2
                  refine ⟨⟨l + 1, by omega, by go_num, hbx.setCell (Nat.le_refl _) _, ?_⟩, by simp [intOf]; omega⟩
                  rw [rowF_step, HF.out]
                  exact put1 ho5 (rowF_len _ _ _) hlt' _
          · replace B3 := B3 (by omega)
            have c3 : 0 < k := by omega
            clear B1 c1' B2 B4
            have AH : Hid (ahead 1099511627776 (tb 1099511627776 xs ys band) k l = bl) := by unfold Hid ahead; rw [if_neg (by omega)]; exact hblv.out
            by_cases t2 : band < (((k : Int) - (l : Int)).natAbs : Int)
            · have HF : Hid ((tb 1099511627776 xs ys band) k l = 1099511627776) := by unfold Hid; rw [TE.out, AH.out]; exact fin_inf (.inr t2)
              go_wp2_with (first | (go_at_call 85; with_reducible refine (abs_any _ _ (by omega) (by omega)).mono ?_; rintro e w' ⟨rfl, rfl⟩))
              refine ⟨⟨l + 1, by omega, by go_num, hb4.setCell (Nat.le_refl _) _, ?_⟩, by simp [intOf]; omega⟩
              rw [rowF_step, HF.out]
              exact put1 ho4 (rowF_len _ _ _) hlt' _
            · by_cases t1 : 1099511627776 ≤ bl
              · have HF : Hid ((tb 1099511627776 xs ys band) k l = 1099511627776) := by unfold Hid; rw [TE.out, AH.out]; exact fin_inf (.inl t1)
                go_wp2_with (first | (go_at_call 85; with_reducible refine (abs_any _ _ (by omega) (by omega)).mono ?_; rintro e w' ⟨rfl, rfl⟩))
                refine ⟨⟨l + 1, by omega, by go_num, hb4.setCell (Nat.le_refl _) _, ?_⟩, by simp [intOf]; omega⟩
                rw [rowF_step, HF.out]
                exact put1 ho4 (rowF_len _ _ _) hlt' _
              · have HF : Hid ((tb 1099511627776 xs ys band) k l = bl + costF (x, y, d) (x', y', d')) := by unfold Hid; have h9 := fin_cost (inf := 1099511627776) (band := band) (best := bl) (by omega) (show away k l ≤ band by unfold away; omega) hx.out hx'.out; rw [TE.out, AH.out, h9]
                have o1 : IntKind.i64.wrap (bl + costF (x, y, d) (x', y', d')) = bl + costF (x, y, d) (x', y', d') := IntWalk.i64_in _ (by omega)
                go_wp2_with (first | (go_at_call 85; with_reducible refine (abs_any _ _ (by omega) (by omega)).mono ?_; rintro e w' ⟨rfl, rfl⟩))
                go_region_held3 (fun w' => (∀ b o, b < gk → w'.cell? ⟨b, o, none⟩ = w3.cell? ⟨b, o, none⟩) ∧ Below gk w3 w') (first | exact sk2 hb4.drew | (go_split_ands; first | exact sk2 (below_app ‹_› hbw5 (by have := Below.size ‹Below gk w3 _›; omega)) | exact sk2 (Below.setCell (below_app hb4.drew hbw5 hg4) (Nat.le_refl _) _))) (first | (go_at_call 108; with_reducible refine (featCost_any x y d x' y' d' _ V1.out V2.out).mono ?_; rintro e w5 ⟨rfl, hbw5⟩; have ho5 := own_below (own_below ho4 ((Below.refl _ _).drew)) hbw5; obtain ⟨⟨v1, e1⟩, f1⟩ := own_cell ho5 (j := l) hlN))
                go_split_ands
                have hbx : Below gk w3 w5 := below_app hb4.drew hbw5 hg4
                clear o1
                go_wp2
                refine ⟨⟨l + 1, by omega, by go_num, hbx.setCell (Nat.le_refl _) _, ?_⟩, by simp [intOf]; omega⟩
                rw [rowF_step, HF.out]
                exact put1 ho5 (rowF_len _ _ _) hlt' _
        · have hlm' : l = m := by omega
          subst hlm'
          have hbr := hB2.trans (hb3.mono (by omega))
          have hw4 := own_belowB hw2 hb3 hsz
          rw [Nat.sub_self, List.replicate_zero, List.append_nil] at ho
          have HO := Lib.hid ho
          clear hr hr' ho
          go_wp2
          refine ⟨⟨k + 1, rs ++ [gk], by omega, by go_num, by have := hrs.out; simp [Hid, this], hbr, hw4, fun r b hrb => ?_⟩, by simp [intOf]; omega⟩
          by_cases hrk : r < k
          · rw [List.getElem?_append_left (by have := hrs.out; omega)] at hrb
            obtain ⟨q1, q2, q3⟩ := hrows2.out r b hrb
            exact ⟨q1, by have := hb3.size; omega, fun s hs => (hb3.cell (p := ⟨b, s, none⟩) q2).trans (q3 s hs)⟩
          · have hrl : r < (rs ++ [gk]).length := (List.getElem?_eq_some_iff.1 hrb).1
            obtain rfl : r = k := by have := hrs.out; simp at hrl; omega
            have hbg : b = gk := by rw [List.getElem?_append_right (by have := hrs.out; omega)] at hrb; have := hrs.out; simp [this] at hrb; exact hrb.symm
            subst hbg
            refine ⟨hsz, by have := hb3.size; omega, fun s hs => ?_⟩
            exact row_cell (n := l) (l := l) (by simpa using HO.out) (Nat.le_refl _) hs
    · have hkn : k = n := by omega
      subst hkn
      clear hr hr'
      obtain ⟨⟨v0, e0⟩, f0⟩ := own_cell hw (j := 0) (by omega)
      have hsz := World.block_lt_of_cell? wr _ e0
      clear e0 f0
      have HW := Lib.hid hw
      clear hw
      go_wp2
      go_ret
      refine ⟨rfl, fun r hr => ?_, hsz, hbr⟩
      obtain ⟨b, hb⟩ : ∃ b, rs[r]? = some b := ⟨_, List.getElem?_eq_getElem (by have := hrs.out; omega)⟩
      exact ⟨b, tabV_cell HW.out (Nat.le_refl _) hrs.out hb, (hrows.out r b hb).2.2⟩
set_option maxHeartbeats 1000000 in
theorem elastic_any (A B : Option Addr) (n ca m cb : Nat) (xs ys : List T3) (band : Int) (w : World) (hr : RdL c3 3 w w.heap.size A n ca xs) (hr' : RdL c3 3 w w.heap.size B m cb ys)
    (ha : featsOk 72 xs = true) (hb : featsOk 72 ys = true) (hw : bandOk n m band = true) :
    Calls Try.prog 115 #[.slice A n ca, .slice B m cb, .int .i64 band] w fun e w' => e = .returned (.int .i64 (elV xs ys band)) ∧ Below w.heap.size w w' := by
  have hl := Lib.hid hr.len
  have hl' := Lib.hid hr'.len
  obtain ⟨a0, a1, a2⟩ := featsOk_bd ha
  obtain ⟨b0, b1, b2⟩ := featsOk_bd hb
  rw [hr.len] at a1 a2
  rw [hr'.len] at b1 b2
  have HV := Lib.hid (elV_of (inf := 1099511627776) ha hb (by rw [hr.len, hr'.len]; exact hw) (by omega))
  obtain ⟨⟨w0, w1⟩, w2⟩ := bandOk_iff.1 hw
  clear ha hb hw
  go_enter Try.func115, Try.ntmps115
  go_wp2_with fail
  with_reducible refine (costTable_any _ _ _ _ _ _ xs ys band _ hr hr' a0 b0 (by omega) (by omega) (by omega) (by omega) w0 w1).mono ?_
  rintro e w1 ⟨rfl, o1, _, hbw1⟩
  obtain ⟨b, t1, t2⟩ := o1 (n - 1) (by omega)
  have hval : tb 1099511627776 xs ys band (n - 1) (m - 1) = elV xs ys band := by have h9 := HV.out; rwa [hl.out, hl'.out] at h9
  have t3 := t2 (m - 1) (by omega)
  rw [hval] at t3
  clear hval o1 t2
  obtain ⟨p, rfl⟩ : ∃ p : Nat, n = p + 1 := ⟨n - 1, by omega⟩
  obtain ⟨q, rfl⟩ : ∃ q : Nat, m = q + 1 := ⟨m - 1, by omega⟩
  rw [show p + 1 - 1 = p by omega] at t1
  rw [show q + 1 - 1 = q by omega] at t3
  clear hr hr'
  go_wp2
  go_ret
  exact ⟨rfl, hbw1⟩
end Go.Proofs.Ytkldejbhhbgefaa
