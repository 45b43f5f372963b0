/- The nearest of some lists: NearestPruned, NearestOf. -/
import Derived.Test.YtfbcnojnpjbghaaWc
import Derived.Test.YtfbcnojnpjbghaaLo
namespace Go.Proofs.Ytfbcnojnpjbghaa
open Go.ChangeShapes Go.WideShapes Go.ChangeAt Go.RowKit
set_option linter.unusedVariables false
set_option linter.unusedSimpArgs false
/-- The nearest so far: its index, its cost, how many lists were matched. -/
def npS (xs : List T3) (ls : List (List T3)) (band : Int) : Nat → Nat × Int × Nat
  | 0 => (0, 0, 0)
  | k + 1 =>
    if bandOk xs.length (ls.getD k []).length band = true ∧ ((npS xs ls band k).2.2 = 0 ∨ lbndV xs (ls.getD k []) band.toNat < (npS xs ls band k).2.1) then
      (if (npS xs ls band k).2.2 = 0 ∨ elV xs (ls.getD k []) band < (npS xs ls band k).2.1 then (k, elV xs (ls.getD k []) band, (npS xs ls band k).2.2 + 1)
       else ((npS xs ls band k).1, (npS xs ls band k).2.1, (npS xs ls band k).2.2 + 1))
    else npS xs ls band k
section
variable {xs x : List T3} {ls : List (List T3)} {band l : Int} {k n m i c : Nat}
theorem np_off (h : npS xs ls band k = (i, l, c)) (hl : xs.length = n) (hx : ls[k]? = some x) (hm : x.length = m) (hb : bandOk n m band = false) : npS xs ls band (k + 1) = (i, l, c) := by
  rw [npS, getD_of hx, hl, hm, if_neg (by rw [hb]; simp), h]
theorem np_cut (h : npS xs ls band k = (i, l, c)) (hx : ls[k]? = some x) (hc : c ≠ 0) (hle : l ≤ lbndV xs x band.toNat) : npS xs ls band (k + 1) = (i, l, c) := by
  rw [npS, getD_of hx, h, if_neg (by simp only; omega)]
theorem np_new (h : npS xs ls band k = (i, l, c)) (hl : xs.length = n) (hx : ls[k]? = some x) (hm : x.length = m) (hb : bandOk n m band = true) (h1 : c = 0 ∨ lbndV xs x band.toNat < l) (h2 : c = 0 ∨ elV xs x band < l) : npS xs ls band (k + 1) = (k, elV xs x band, c + 1) := by
  rw [npS, getD_of hx, hl, hm, h, if_pos ⟨hb, h1⟩, if_pos h2]
theorem np_old (h : npS xs ls band k = (i, l, c)) (hl : xs.length = n) (hx : ls[k]? = some x) (hm : x.length = m) (hb : bandOk n m band = true) (hc : c ≠ 0) (h1 : lbndV xs x band.toNat < l) (h2 : l ≤ elV xs x band) : npS xs ls band (k + 1) = (i, l, c + 1) := by
  rw [npS, getD_of hx, hl, hm, h, if_pos ⟨hb, Or.inr h1⟩, if_neg (by simp only; omega)]
end
theorem np_bd (xs : List T3) (ls : List (List T3)) (band : Int) : ∀ k, (npS xs ls band k).1 ≤ k ∧ (npS xs ls band k).2.2 ≤ k
  | 0 => ⟨Nat.le_refl _, Nat.le_refl _⟩
  | k + 1 => by
    obtain ⟨h1, h2⟩ := np_bd xs ls band k
    rw [npS]; split
    · split
      · exact ⟨by simp only; omega, by simp only; omega⟩
      · exact ⟨by simp only; omega, by simp only; omega⟩
    · exact ⟨by omega, by omega⟩
def npR (xs : List T3) (ls : List (List T3)) (band : Int) : Int × Int × Int × Int :=
  if srE xs ls band = 0 then (if (npS xs ls band ls.length).2.2 = 0 then (0, 0, 0, 3) else ((npS xs ls band ls.length).1, (npS xs ls band ls.length).2.1, (npS xs ls band ls.length).2.2, 0)) else (0, 0, 0, srE xs ls band)
theorem npR_bad {xs : List T3} {ls : List (List T3)} {band : Int} (h : ¬ srE xs ls band = 0) : npR xs ls band = (0, 0, 0, srE xs ls band) := if_neg h
theorem npR_none {xs : List T3} {ls : List (List T3)} {band l : Int} {m i : Nat} (h : srE xs ls band = 0) (hm : ls.length = m) (hs : npS xs ls band m = (i, l, 0)) : npR xs ls band = (0, 0, 0, 3) := by
  unfold npR; rw [if_pos h, hm, hs, if_pos rfl]
theorem npR_some {xs : List T3} {ls : List (List T3)} {band l : Int} {m i c : Nat} (h : srE xs ls band = 0) (hm : ls.length = m) (hs : npS xs ls band m = (i, l, c)) (hc : c ≠ 0) : npR xs ls band = ((i : Int), l, (c : Int), 0) := by
  unfold npR; rw [if_pos h, hm, hs, if_neg hc]
def atV (c i : Nat) : Int := if c = 0 then -1 else i
theorem atV_no (i : Nat) : atV 0 i = -1 := rfl
theorem atV_yes {c : Nat} (i : Nat) (h : c ≠ 0) : atV c i = i := if_neg h
theorem ret_np4 {xs : List T3} {ls : List (List T3)} {band a b c d : Int} (h : npR xs ls band = (a, b, c, d)) : Ending.returned (.tuple #[.int .i64 a, .int .i64 b, .int .i64 c, .int .i64 d]) = .returned (.tuple #[.int .i64 (npR xs ls band).1, .int .i64 (npR xs ls band).2.1, .int .i64 (npR xs ls band).2.2.1, .int .i64 (npR xs ls band).2.2.2]) := by rw [h]
theorem ret_np3 {xs : List T3} {ls : List (List T3)} {band a b c d : Int} (h : npR xs ls band = (a, b, c, d)) : Ending.returned (.tuple #[.int .i64 a, .int .i64 b, .int .i64 d]) = .returned (.tuple #[.int .i64 (npR xs ls band).1, .int .i64 (npR xs ls band).2.1, .int .i64 (npR xs ls band).2.2.2]) := by rw [h]
set_option maxRecDepth 100000 in
set_option maxHeartbeats 8000000 in
theorem iNearPr_any (A B : Option Addr) (n ca m cb : Nat) (xs : List T3) (ls : List (List T3)) (band : Int) (w : World) (hr : RdL c3 3 w w.heap.size A n ca xs) (hs : NL w w.heap.size B m cb ls) (hn : n ≤ 1048576) (hm : totL ls ≤ 1048576) :
    Calls Try.prog 34 #[.slice A n ca, .slice B m cb, .int .i64 band] w fun e w' => e = .returned (.tuple #[.int .i64 (npR xs ls band).1, .int .i64 (npR xs ls band).2.1, .int .i64 (npR xs ls band).2.2.1, .int .i64 (npR xs ls band).2.2.2]) ∧ Below w.heap.size w w' := by
  have hl := Lib.hid hs.len
  have hlx := Lib.hid hr.len
  go_enter Try.func34, Try.ntmps34
  go_wp2_with fail
  with_reducible refine (searchable_any _ _ _ _ _ _ xs ls band _ hr hs hn hm).mono ?_
  rintro e w1 ⟨rfl, hbw1⟩
  replace hr := hr.on hbw1
  replace hs := hs.on hbw1
  by_cases hc : srE xs ls band = 0
  · obtain ⟨V1, V2, V3, V4, V5⟩ := srE_inv hc
    obtain ⟨bd, rfl⟩ := Int.eq_ofNat_of_zero_le V4
    rw [hl.out] at V2
    have HR := Lib.hid hr
    have HS := Lib.hid hs
    have V1 := Lib.hid V1
    have V3 := Lib.hid V3
    have HC := Lib.hid hc
    rw [hc]
    clear hr hs
    go_wp2
    clear hc
    go_loopw [11, 12, 13, 26] (fun qi ql qc i wr => ∃ (k I c : Nat) (l : Int), k ≤ m ∧ i = .int .i64 k ∧ qi = .int .i64 I ∧ ql = .int .i64 l ∧ qc = .int .i64 c ∧ Below w1.heap.size w1 wr ∧ Hid (npS xs ls bd k = (I, l, c))) (fun _ _ _ i _ => m - (intOf i).toNat)
    case atStart => exact ⟨0, 0, 0, 0, by omega, rfl, rfl, rfl, rfl, Below.refl _ _, rfl⟩
    case round =>
      obtain ⟨k, I, c, l, hk, rfl, rfl, rfl, rfl, hb, hS⟩ := hrel
      have hbr := below_on hb hbw1
      have hbd1 := np_bd xs ls bd k
      rw [hS.out] at hbd1
      obtain ⟨hI, hC⟩ : I ≤ k ∧ c ≤ k := hbd1
      by_cases hlt : k < m
      · obtain ⟨b, off, B', n', cb', x, rfl, hbl, hx, q0, hx3⟩ := (HS.out.on hb).at_ hlt
        have i1 : (k : Int) < (m : Int) := by omega
        have i2 : (0 : Int) ≤ (k : Int) := by omega
        have hxn := tot_in hm hx.out hx3.len
        have VX := Lib.hid (V3.out k x hx.out)
        have HX := Lib.hid hx3
        have hxl := Lib.hid hx3.len
        have HA := Lib.hid (HR.out.on hb)
        clear hx3
        rcases Nat.eq_zero_or_pos c with rfl | hc0
        · skip
          cases hbd : bandOk n n' (bd : Int) with
          | false =>
            have HT := Lib.hid (np_off hS.out hlx.out hx.out hxl.out hbd)
            go_wp2_with fail
            with_reducible refine (isBand_any _ _ _ _ (by omega) hxn).mono ?_
            rintro e w2 ⟨rfl, rfl⟩
            go_wp2
            exact ⟨⟨k + 1, I, 0, l, by omega, by go_num, rfl, rfl, rfl, hb, HT⟩, by simp [intOf]; omega⟩
          | true =>
            have HBd := Lib.hid hbd
            go_wp2_with fail
            with_reducible refine (isBand_any _ _ _ _ (by omega) hxn).mono ?_
            rintro e w2 ⟨rfl, rfl⟩
            clear hbd
            go_wp2_with fail
            with_reducible refine (elastic_any _ _ _ _ _ _ xs x bd _ HA.out HX.out V1.out VX.out HBd.out).mono ?_
            rintro e w4 ⟨rfl, hbw4⟩
            replace hb := below_on hbw4 hb
            obtain ⟨ev, hev⟩ : ∃ ev, Hid (elV xs x bd = ev) := ⟨_, rfl⟩
            rw [hev.out]
            have HT := Lib.hid (np_new hS.out hlx.out hx.out hxl.out HBd.out (Or.inl rfl) (Or.inl rfl))
            rw [hev.out] at HT
            go_wp2
            exact ⟨⟨k + 1, k, (0 + 1), ev, by omega, by go_num, rfl, rfl, by go_num, hb, HT⟩, by simp [intOf]; omega⟩
        · skip
          have j1 : (0 : Int) < (c : Int) := by omega
          have j2 : ((c : Int) == 0) = false := by simp; omega
          have j3 : ¬ (I : Int) < 0 := by omega
          have j4 : (0 : Int) ≤ (I : Int) := by omega
          cases hbd : bandOk n n' (bd : Int) with
          | false =>
            have HT := Lib.hid (np_off hS.out hlx.out hx.out hxl.out hbd)
            go_wp2_with fail
            with_reducible refine (isBand_any _ _ _ _ (by omega) hxn).mono ?_
            rintro e w2 ⟨rfl, rfl⟩
            go_wp2
            exact ⟨⟨k + 1, I, c, l, by omega, by go_num, rfl, rfl, rfl, hb, HT⟩, by simp [intOf]; omega⟩
          | true =>
            have HBd := Lib.hid hbd
            go_wp2_with fail
            with_reducible refine (isBand_any _ _ _ _ (by omega) hxn).mono ?_
            rintro e w2 ⟨rfl, rfl⟩
            clear hbd
            go_wp2_with fail
            with_reducible refine (lowerBound_any _ _ _ _ _ _ xs x bd _ HA.out HX.out V1.out VX.out HBd.out).mono ?_
            rintro e w3 ⟨rfl, hbW⟩
            replace HX := Lib.hid (HX.out.on hbW)
            replace HA := Lib.hid (HA.out.on hbW)
            replace q0 := cell_on2 hbW q0
            replace hbl := Nat.lt_of_lt_of_le hbl hbW.size
            replace hb := below_on hbW hb
            obtain ⟨lb, hlb⟩ : ∃ lb, Hid (lbndV xs x bd = lb) := ⟨_, rfl⟩
            rw [hlb.out]
            by_cases hle : l ≤ lb
            · have HT := Lib.hid (np_cut hS.out hx.out (by omega) (by rw [Int.toNat_natCast, hlb.out]; exact hle))
              go_wp2
              exact ⟨⟨k + 1, I, c, l, by omega, by go_num, rfl, rfl, rfl, hb, HT⟩, by simp [intOf]; omega⟩
            · have hle2 : lb < l := by omega
              go_wp2_with fail
              with_reducible refine (elastic_any _ _ _ _ _ _ xs x bd _ HA.out HX.out V1.out VX.out HBd.out).mono ?_
              rintro e w4 ⟨rfl, hbw4⟩
              replace hb := below_on hbw4 hb
              obtain ⟨ev, hev⟩ : ∃ ev, Hid (elV xs x bd = ev) := ⟨_, rfl⟩
              rw [hev.out]
              by_cases hlt2 : ev < l
              · have HT := Lib.hid (np_new hS.out hlx.out hx.out hxl.out HBd.out (Or.inr (by rw [Int.toNat_natCast, hlb.out]; exact hle2)) (Or.inr (by rw [hev.out]; exact hlt2)))
                rw [hev.out] at HT
                go_wp2
                exact ⟨⟨k + 1, k, (c + 1), ev, by omega, by go_num, rfl, rfl, by go_num, hb, HT⟩, by simp [intOf]; omega⟩
              · have HT := Lib.hid (np_old hS.out hlx.out hx.out hxl.out HBd.out (by omega) (by rw [Int.toNat_natCast, hlb.out]; exact hle2) (by rw [hev.out]; omega))
                have hlt3 : l ≤ ev := by omega
                go_wp2
                exact ⟨⟨k + 1, I, (c + 1), l, by omega, by go_num, rfl, rfl, by go_num, hb, HT⟩, by simp [intOf]; omega⟩
      · have hkn : k = m := by omega
        subst hkn
        rcases Nat.eq_zero_or_pos c with rfl | hc0
        · skip
          have F := Lib.hid (npR_none HC.out hl.out hS.out)
          go_wp2
          exact bodyPost_ret (v := .tuple #[.int .i64 0, .int .i64 0, .int .i64 0, .int .i64 3]) (by simp [results, Try.results34, go_sem]) rfl ⟨ret_np4 F.out, hbr⟩
        · skip
          have j2 : ((c : Int) == 0) = false := by simp; omega
          have j3 : ¬ (I : Int) < 0 := by omega
          have F := Lib.hid (npR_some HC.out hl.out hS.out (by omega))
          go_wp2
          exact bodyPost_ret (v := .tuple #[.int .i64 I, .int .i64 l, .int .i64 c, .int .i64 0]) (by simp [results, Try.results34, go_sem]) rfl ⟨ret_np4 F.out, hbr⟩
  · have F := Lib.hid (npR_bad hc)
    have hc2 : (srE xs ls band == 0) = false := by simp; exact hc
    clear hr hs
    go_wp2
    exact bodyPost_ret (v := .tuple #[.int .i64 0, .int .i64 0, .int .i64 0, .int .i64 (srE xs ls band)]) (by simp [results, Try.results34, go_sem]) rfl ⟨ret_np4 F.out, hbw1⟩
set_option maxRecDepth 100000 in
set_option maxHeartbeats 8000000 in
theorem iNearOf_any (A B : Option Addr) (n ca m cb : Nat) (xs : List T3) (ls : List (List T3)) (band : Int) (w : World) (hr : RdL c3 3 w w.heap.size A n ca xs) (hs : NL w w.heap.size B m cb ls) (hn : n ≤ 1048576) (hm : totL ls ≤ 1048576) :
    Calls Try.prog 31 #[.slice A n ca, .slice B m cb, .int .i64 band] w fun e w' => e = .returned (.tuple #[.int .i64 (npR xs ls band).1, .int .i64 (npR xs ls band).2.1, .int .i64 (npR xs ls band).2.2.2]) ∧ Below w.heap.size w w' := by
  have hl := Lib.hid hs.len
  have hlx := Lib.hid hr.len
  clear hl hlx
  go_enter Try.func31, Try.ntmps31
  go_wp2_with fail
  with_reducible refine (iNearPr_any _ _ _ _ _ _ xs ls band _ hr hs hn hm).mono ?_
  rintro e w1 ⟨rfl, hbw1⟩
  go_wp2
  exact bodyPost_ret (v := .tuple #[.int .i64 (npR xs ls band).1, .int .i64 (npR xs ls band).2.1, .int .i64 (npR xs ls band).2.2.2]) (by simp [results, Try.results31, go_sem]) rfl ⟨rfl, hbw1⟩
set_option maxRecDepth 100000 in
set_option maxHeartbeats 8000000 in
theorem sNearPr_any (A B : Option Addr) (n ca m cb : Nat) (xs : List T3) (ls : List (List T3)) (band : Int) (w : World) (hr : RdL c3 3 w w.heap.size A n ca xs) (hs : NL w w.heap.size B m cb ls) (hn : n ≤ 1048576) (hm : totL ls ≤ 1048576) :
    Calls Try.prog 33 #[.slice A n ca, .slice B m cb, .int .i64 band] w fun e w' => e = .returned (.tuple #[.int .i64 (npR xs ls band).1, .int .i64 (npR xs ls band).2.1, .int .i64 (npR xs ls band).2.2.1, .int .i64 (npR xs ls band).2.2.2]) ∧ Below w.heap.size w w' := by
  have hl := Lib.hid hs.len
  have hlx := Lib.hid hr.len
  go_enter Try.func33, Try.ntmps33
  go_wp2_with fail
  with_reducible refine (l10Code_any _ _ _ _ _ _ xs ls band _ hr hs hn hm).mono ?_
  rintro e w1 ⟨rfl, hbw1⟩
  replace hr := hr.on hbw1
  replace hs := hs.on hbw1
  by_cases hc : srE xs ls band = 0
  · obtain ⟨V1, V2, V3, V4, V5⟩ := srE_inv hc
    obtain ⟨bd, rfl⟩ := Int.eq_ofNat_of_zero_le V4
    rw [hl.out] at V2
    have HR := Lib.hid hr
    have HS := Lib.hid hs
    have V1 := Lib.hid V1
    have V3 := Lib.hid V3
    have HC := Lib.hid hc
    rw [hc]
    clear hr hs
    go_wp2
    clear hc
    go_loopw [11, 12, 13, 14] (fun qi ql qc i wr => ∃ (k I c : Nat) (l : Int), k ≤ m ∧ i = .int .i64 k ∧ qi = .int .i64 (atV c I) ∧ ql = .int .i64 l ∧ qc = .int .i64 c ∧ Below w1.heap.size w1 wr ∧ Hid (npS xs ls bd k = (I, l, c))) (fun _ _ _ i _ => m - (intOf i).toNat)
    case atStart => exact ⟨0, 0, 0, 0, by omega, rfl, rfl, rfl, rfl, Below.refl _ _, rfl⟩
    case round =>
      obtain ⟨k, I, c, l, hk, rfl, rfl, rfl, rfl, hb, hS⟩ := hrel
      have hbr := below_on hb hbw1
      have hbd1 := np_bd xs ls bd k
      rw [hS.out] at hbd1
      obtain ⟨hI, hC⟩ : I ≤ k ∧ c ≤ k := hbd1
      by_cases hlt : k < m
      · obtain ⟨b, off, B', n', cb', x, rfl, hbl, hx, q0, hx3⟩ := (HS.out.on hb).at_ hlt
        have i1 : (k : Int) < (m : Int) := by omega
        have i2 : (0 : Int) ≤ (k : Int) := by omega
        have hxn := tot_in hm hx.out hx3.len
        have VX := Lib.hid (V3.out k x hx.out)
        have HX := Lib.hid hx3
        have hxl := Lib.hid hx3.len
        have HA := Lib.hid (HR.out.on hb)
        clear hx3
        rcases Nat.eq_zero_or_pos c with rfl | hc0
        · rw [atV_no]
          cases hbd : bandOk n n' (bd : Int) with
          | false =>
            have HT := Lib.hid (np_off hS.out hlx.out hx.out hxl.out hbd)
            go_wp2_with fail
            with_reducible refine (l10In_any _ _ _ _ _ _ _ _ (by omega) hxn).mono ?_
            rintro e w2 ⟨rfl, hbw2⟩
            replace HX := Lib.hid (HX.out.on hbw2)
            replace HA := Lib.hid (HA.out.on hbw2)
            replace q0 := cell_on2 hbw2 q0
            replace hbl := Nat.lt_of_lt_of_le hbl hbw2.size
            replace hb := below_on hbw2 hb
            go_wp2
            exact ⟨⟨k + 1, I, 0, l, by omega, by go_num, rfl, rfl, rfl, hb, HT⟩, by simp [intOf]; omega⟩
          | true =>
            have HBd := Lib.hid hbd
            go_wp2_with fail
            with_reducible refine (l10In_any _ _ _ _ _ _ _ _ (by omega) hxn).mono ?_
            rintro e w2 ⟨rfl, hbw2⟩
            replace HX := Lib.hid (HX.out.on hbw2)
            replace HA := Lib.hid (HA.out.on hbw2)
            replace q0 := cell_on2 hbw2 q0
            replace hbl := Nat.lt_of_lt_of_le hbl hbw2.size
            replace hb := below_on hbw2 hb
            clear hbd
            go_wp2_with fail
            with_reducible refine (l09Least_any _ _ _ _ _ _ xs x bd _ HA.out HX.out V1.out VX.out HBd.out).mono ?_
            rintro e w4 ⟨rfl, hbw4⟩
            replace hb := below_on hbw4 hb
            obtain ⟨ev, hev⟩ : ∃ ev, Hid (elV xs x bd = ev) := ⟨_, rfl⟩
            rw [hev.out]
            have HT := Lib.hid (np_new hS.out hlx.out hx.out hxl.out HBd.out (Or.inl rfl) (Or.inl rfl))
            rw [hev.out] at HT
            go_wp2
            exact ⟨⟨k + 1, k, (0 + 1), ev, by omega, by go_num, by rw [atV_yes _ (by omega)], rfl, by go_num, hb, HT⟩, by simp [intOf]; omega⟩
        · rw [atV_yes _ (by omega)]
          have j1 : (0 : Int) < (c : Int) := by omega
          have j2 : ((c : Int) == 0) = false := by simp; omega
          have j3 : ¬ (I : Int) < 0 := by omega
          have j4 : (0 : Int) ≤ (I : Int) := by omega
          cases hbd : bandOk n n' (bd : Int) with
          | false =>
            have HT := Lib.hid (np_off hS.out hlx.out hx.out hxl.out hbd)
            go_wp2_with fail
            with_reducible refine (l10In_any _ _ _ _ _ _ _ _ (by omega) hxn).mono ?_
            rintro e w2 ⟨rfl, hbw2⟩
            replace HX := Lib.hid (HX.out.on hbw2)
            replace HA := Lib.hid (HA.out.on hbw2)
            replace q0 := cell_on2 hbw2 q0
            replace hbl := Nat.lt_of_lt_of_le hbl hbw2.size
            replace hb := below_on hbw2 hb
            go_wp2
            exact ⟨⟨k + 1, I, c, l, by omega, by go_num, by rw [atV_yes _ (by omega)], rfl, rfl, hb, HT⟩, by simp [intOf]; omega⟩
          | true =>
            have HBd := Lib.hid hbd
            go_wp2_with fail
            with_reducible refine (l10In_any _ _ _ _ _ _ _ _ (by omega) hxn).mono ?_
            rintro e w2 ⟨rfl, hbw2⟩
            replace HX := Lib.hid (HX.out.on hbw2)
            replace HA := Lib.hid (HA.out.on hbw2)
            replace q0 := cell_on2 hbw2 q0
            replace hbl := Nat.lt_of_lt_of_le hbl hbw2.size
            replace hb := below_on hbw2 hb
            clear hbd
            go_wp2_with fail
            with_reducible refine (l10Bound_any _ _ _ _ _ _ xs x bd _ HA.out HX.out V1.out VX.out HBd.out).mono ?_
            rintro e w3 ⟨rfl, hbW⟩
            replace HX := Lib.hid (HX.out.on hbW)
            replace HA := Lib.hid (HA.out.on hbW)
            replace q0 := cell_on2 hbW q0
            replace hbl := Nat.lt_of_lt_of_le hbl hbW.size
            replace hb := below_on hbW hb
            obtain ⟨lb, hlb⟩ : ∃ lb, Hid (lbndV xs x bd = lb) := ⟨_, rfl⟩
            rw [hlb.out]
            by_cases hle : l ≤ lb
            · have HT := Lib.hid (np_cut hS.out hx.out (by omega) (by rw [Int.toNat_natCast, hlb.out]; exact hle))
              go_wp2
              exact ⟨⟨k + 1, I, c, l, by omega, by go_num, by rw [atV_yes _ (by omega)], rfl, rfl, hb, HT⟩, by simp [intOf]; omega⟩
            · have hle2 : lb < l := by omega
              go_wp2_with fail
              with_reducible refine (l09Least_any _ _ _ _ _ _ xs x bd _ HA.out HX.out V1.out VX.out HBd.out).mono ?_
              rintro e w4 ⟨rfl, hbw4⟩
              replace hb := below_on hbw4 hb
              obtain ⟨ev, hev⟩ : ∃ ev, Hid (elV xs x bd = ev) := ⟨_, rfl⟩
              rw [hev.out]
              by_cases hlt2 : ev < l
              · have HT := Lib.hid (np_new hS.out hlx.out hx.out hxl.out HBd.out (Or.inr (by rw [Int.toNat_natCast, hlb.out]; exact hle2)) (Or.inr (by rw [hev.out]; exact hlt2)))
                rw [hev.out] at HT
                go_wp2
                exact ⟨⟨k + 1, k, (c + 1), ev, by omega, by go_num, by rw [atV_yes _ (by omega)], rfl, by go_num, hb, HT⟩, by simp [intOf]; omega⟩
              · have HT := Lib.hid (np_old hS.out hlx.out hx.out hxl.out HBd.out (by omega) (by rw [Int.toNat_natCast, hlb.out]; exact hle2) (by rw [hev.out]; omega))
                have hlt3 : l ≤ ev := by omega
                go_wp2
                exact ⟨⟨k + 1, I, (c + 1), l, by omega, by go_num, by rw [atV_yes _ (by omega)], rfl, by go_num, hb, HT⟩, by simp [intOf]; omega⟩
      · have hkn : k = m := by omega
        subst hkn
        rcases Nat.eq_zero_or_pos c with rfl | hc0
        · rw [atV_no]
          have F := Lib.hid (npR_none HC.out hl.out hS.out)
          go_wp2
          exact bodyPost_ret (v := .tuple #[.int .i64 0, .int .i64 0, .int .i64 0, .int .i64 3]) (by simp [results, Try.results33, go_sem]) rfl ⟨ret_np4 F.out, hbr⟩
        · rw [atV_yes _ (by omega)]
          have j2 : ((c : Int) == 0) = false := by simp; omega
          have j3 : ¬ (I : Int) < 0 := by omega
          have F := Lib.hid (npR_some HC.out hl.out hS.out (by omega))
          go_wp2
          exact bodyPost_ret (v := .tuple #[.int .i64 I, .int .i64 l, .int .i64 c, .int .i64 0]) (by simp [results, Try.results33, go_sem]) rfl ⟨ret_np4 F.out, hbr⟩
  · have F := Lib.hid (npR_bad hc)
    have hc2 : (srE xs ls band == 0) = false := by simp; exact hc
    clear hr hs
    go_wp2
    exact bodyPost_ret (v := .tuple #[.int .i64 0, .int .i64 0, .int .i64 0, .int .i64 (srE xs ls band)]) (by simp [results, Try.results33, go_sem]) rfl ⟨ret_np4 F.out, hbw1⟩
set_option maxRecDepth 100000 in
set_option maxHeartbeats 8000000 in
theorem sNearOf_any (A B : Option Addr) (n ca m cb : Nat) (xs : List T3) (ls : List (List T3)) (band : Int) (w : World) (hr : RdL c3 3 w w.heap.size A n ca xs) (hs : NL w w.heap.size B m cb ls) (hn : n ≤ 1048576) (hm : totL ls ≤ 1048576) :
    Calls Try.prog 29 #[.slice A n ca, .slice B m cb, .int .i64 band] w fun e w' => e = .returned (.tuple #[.int .i64 (npR xs ls band).1, .int .i64 (npR xs ls band).2.1, .int .i64 (npR xs ls band).2.2.2]) ∧ Below w.heap.size w w' := by
  have hl := Lib.hid hs.len
  have hlx := Lib.hid hr.len
  go_enter Try.func29, Try.ntmps29
  go_wp2_with fail
  with_reducible refine (l10Code_any _ _ _ _ _ _ xs ls band _ hr hs hn hm).mono ?_
  rintro e w1 ⟨rfl, hbw1⟩
  replace hr := hr.on hbw1
  replace hs := hs.on hbw1
  by_cases hc : srE xs ls band = 0
  · obtain ⟨V1, V2, V3, V4, V5⟩ := srE_inv hc
    obtain ⟨bd, rfl⟩ := Int.eq_ofNat_of_zero_le V4
    rw [hl.out] at V2
    have HR := Lib.hid hr
    have HS := Lib.hid hs
    have V1 := Lib.hid V1
    have V3 := Lib.hid V3
    have HC := Lib.hid hc
    rw [hc]
    clear hr hs
    go_wp2
    clear hc
    go_loopw [10, 11, 12] (fun qi ql i wr => ∃ (k I c : Nat) (l : Int), k ≤ m ∧ i = .int .i64 k ∧ qi = .int .i64 (atV c I) ∧ ql = .int .i64 l ∧ Below w1.heap.size w1 wr ∧ Hid (npS xs ls bd k = (I, l, c))) (fun _ _ i _ => m - (intOf i).toNat)
    case atStart => exact ⟨0, 0, 0, 0, by omega, rfl, rfl, rfl, Below.refl _ _, rfl⟩
    case round =>
      obtain ⟨k, I, c, l, hk, rfl, rfl, rfl, hb, hS⟩ := hrel
      have hbr := below_on hb hbw1
      have hbd1 := np_bd xs ls bd k
      rw [hS.out] at hbd1
      obtain ⟨hI, hC⟩ : I ≤ k ∧ c ≤ k := hbd1
      by_cases hlt : k < m
      · obtain ⟨b, off, B', n', cb', x, rfl, hbl, hx, q0, hx3⟩ := (HS.out.on hb).at_ hlt
        have i1 : (k : Int) < (m : Int) := by omega
        have i2 : (0 : Int) ≤ (k : Int) := by omega
        have hxn := tot_in hm hx.out hx3.len
        have VX := Lib.hid (V3.out k x hx.out)
        have HX := Lib.hid hx3
        have hxl := Lib.hid hx3.len
        have HA := Lib.hid (HR.out.on hb)
        clear hx3
        rcases Nat.eq_zero_or_pos c with rfl | hc0
        · rw [atV_no]
          cases hbd : bandOk n n' (bd : Int) with
          | false =>
            have HT := Lib.hid (np_off hS.out hlx.out hx.out hxl.out hbd)
            go_wp2_with fail
            with_reducible refine (l10In_any _ _ _ _ _ _ _ _ (by omega) hxn).mono ?_
            rintro e w2 ⟨rfl, hbw2⟩
            replace HX := Lib.hid (HX.out.on hbw2)
            replace HA := Lib.hid (HA.out.on hbw2)
            replace q0 := cell_on2 hbw2 q0
            replace hbl := Nat.lt_of_lt_of_le hbl hbw2.size
            replace hb := below_on hbw2 hb
            go_wp2
            exact ⟨⟨k + 1, I, 0, l, by omega, by go_num, rfl, rfl, hb, HT⟩, by simp [intOf]; omega⟩
          | true =>
            have HBd := Lib.hid hbd
            go_wp2_with fail
            with_reducible refine (l10In_any _ _ _ _ _ _ _ _ (by omega) hxn).mono ?_
            rintro e w2 ⟨rfl, hbw2⟩
            replace HX := Lib.hid (HX.out.on hbw2)
            replace HA := Lib.hid (HA.out.on hbw2)
            replace q0 := cell_on2 hbw2 q0
            replace hbl := Nat.lt_of_lt_of_le hbl hbw2.size
            replace hb := below_on hbw2 hb
            go_wp2_with fail
            with_reducible refine (l09Least_any _ _ _ _ _ _ xs x bd _ HA.out HX.out V1.out VX.out HBd.out).mono ?_
            rintro e w4 ⟨rfl, hbw4⟩
            replace hb := below_on hbw4 hb
            obtain ⟨ev, hev⟩ : ∃ ev, Hid (elV xs x bd = ev) := ⟨_, rfl⟩
            rw [hev.out]
            have HT := Lib.hid (np_new hS.out hlx.out hx.out hxl.out HBd.out (Or.inl rfl) (Or.inl rfl))
            rw [hev.out] at HT
            go_wp2
            exact ⟨⟨k + 1, k, (0 + 1), ev, by omega, by go_num, by rw [atV_yes _ (by omega)], rfl, hb, HT⟩, by simp [intOf]; omega⟩
        · rw [atV_yes _ (by omega)]
          have j1 : (0 : Int) < (c : Int) := by omega
          have j2 : ((c : Int) == 0) = false := by simp; omega
          have j3 : ¬ (I : Int) < 0 := by omega
          have j4 : (0 : Int) ≤ (I : Int) := by omega
          cases hbd : bandOk n n' (bd : Int) with
          | false =>
            have HT := Lib.hid (np_off hS.out hlx.out hx.out hxl.out hbd)
            go_wp2_with fail
            with_reducible refine (l10In_any _ _ _ _ _ _ _ _ (by omega) hxn).mono ?_
            rintro e w2 ⟨rfl, hbw2⟩
            replace HX := Lib.hid (HX.out.on hbw2)
            replace HA := Lib.hid (HA.out.on hbw2)
            replace q0 := cell_on2 hbw2 q0
            replace hbl := Nat.lt_of_lt_of_le hbl hbw2.size
            replace hb := below_on hbw2 hb
            go_wp2
            exact ⟨⟨k + 1, I, c, l, by omega, by go_num, by rw [atV_yes _ (by omega)], rfl, hb, HT⟩, by simp [intOf]; omega⟩
          | true =>
            have HBd := Lib.hid hbd
            go_wp2_with fail
            with_reducible refine (l10In_any _ _ _ _ _ _ _ _ (by omega) hxn).mono ?_
            rintro e w2 ⟨rfl, hbw2⟩
            replace HX := Lib.hid (HX.out.on hbw2)
            replace HA := Lib.hid (HA.out.on hbw2)
            replace q0 := cell_on2 hbw2 q0
            replace hbl := Nat.lt_of_lt_of_le hbl hbw2.size
            replace hb := below_on hbw2 hb
            have LB := Lib.hid (lbnd_le V1.out VX.out (show bandOk xs.length x.length (bd : Int) = true by rw [hlx.out, hxl.out]; exact HBd.out))
            go_wp2_with fail
            with_reducible refine (l09Least_any _ _ _ _ _ _ xs x bd _ HA.out HX.out V1.out VX.out HBd.out).mono ?_
            rintro e w4 ⟨rfl, hbw4⟩
            replace hb := below_on hbw4 hb
            obtain ⟨ev, hev⟩ : ∃ ev, Hid (elV xs x bd = ev) := ⟨_, rfl⟩
            rw [hev.out]
            rw [hev.out] at LB
            by_cases hlt2 : ev < l
            · have HT := Lib.hid (np_new hS.out hlx.out hx.out hxl.out HBd.out (Or.inr (by have := LB.out; rw [Int.toNat_natCast]; omega)) (Or.inr (by rw [hev.out]; exact hlt2)))
              rw [hev.out] at HT
              go_wp2
              exact ⟨⟨k + 1, k, (c + 1), ev, by omega, by go_num, by rw [atV_yes _ (by omega)], rfl, hb, HT⟩, by simp [intOf]; omega⟩
            · have hlt3 : l ≤ ev := by omega
              have HT : Hid (∃ c', c' ≠ 0 ∧ npS xs ls bd (k + 1) = (I, l, c')) := by
                by_cases hle : l ≤ lbndV xs x bd
                · exact ⟨c, by omega, np_cut hS.out hx.out (by omega) (by rw [Int.toNat_natCast]; exact hle)⟩
                · exact ⟨c + 1, by omega, np_old hS.out hlx.out hx.out hxl.out HBd.out (by omega) (by rw [Int.toNat_natCast]; omega) (by rw [hev.out]; omega)⟩
              go_wp2
              obtain ⟨c', hc', HT⟩ := HT.out
              exact ⟨⟨k + 1, I, c', l, by omega, by go_num, by rw [atV_yes _ hc'], rfl, hb, HT⟩, by simp [intOf]; omega⟩
      · have hkn : k = m := by omega
        subst hkn
        rcases Nat.eq_zero_or_pos c with rfl | hc0
        · rw [atV_no]
          have F := Lib.hid (npR_none HC.out hl.out hS.out)
          go_wp2
          exact bodyPost_ret (v := .tuple #[.int .i64 0, .int .i64 0, .int .i64 3]) (by simp [results, Try.results29, go_sem]) rfl ⟨ret_np3 F.out, hbr⟩
        · rw [atV_yes _ (by omega)]
          have j2 : ((c : Int) == 0) = false := by simp; omega
          have j3 : ¬ (I : Int) < 0 := by omega
          have F := Lib.hid (npR_some HC.out hl.out hS.out (by omega))
          go_wp2
          exact bodyPost_ret (v := .tuple #[.int .i64 I, .int .i64 l, .int .i64 0]) (by simp [results, Try.results29, go_sem]) rfl ⟨ret_np3 F.out, hbr⟩
  · have F := Lib.hid (npR_bad hc)
    have hc2 : (srE xs ls band == 0) = false := by simp; exact hc
    clear hr hs
    go_wp2
    exact bodyPost_ret (v := .tuple #[.int .i64 0, .int .i64 0, .int .i64 (srE xs ls band)]) (by simp [results, Try.results29, go_sem]) rfl ⟨ret_np3 F.out, hbw1⟩
end Go.Proofs.Ytfbcnojnpjbghaa
