/- The matches of all templates that take part: the program's and the reference's. -/
import Derived.Test.YtkldejbhhbgefaaSt
import Derived.Test.YtkldejbhhbgefaaWc
import Derived.Test.YtkldejbhhbgefaaFlMatch
import Derived.Deep.RegionHeld3
namespace Go.Proofs.Ytkldejbhhbgefaa
open Go.ChangeShapes Go.WideShapes Go.ChangeAt Go.RowKit
set_option linter.unusedVariables false
set_option linter.unusedSimpArgs false
def mtS (xs : List T3) (ts : List TV) (band : Int) : Nat → List T2
  | 0 => []
  | k + 1 => if bandOk xs.length (ts.getD k (⟨#[]⟩, [])).2.length band = true then mtS xs ts band k ++ [((k : Int), elV xs (ts.getD k (⟨#[]⟩, [])).2 band)] else mtS xs ts band k
theorem mtS_len (xs : List T3) (ts : List TV) (band : Int) : ∀ k, (mtS xs ts band k).length ≤ k
  | 0 => by simp [mtS]
  | k + 1 => by
    have h := mtS_len xs ts band k
    rw [mtS]; split
    · rw [List.length_append, List.length_singleton]; omega
    · omega
theorem mtS_off {xs x : List T3} {ts : List TV} {band : Int} {k n m : Nat} {s : ByteArray} (hl : xs.length = n) (hx : ts[k]? = some (s, x)) (hm : x.length = m) (h : bandOk n m band = false) : mtS xs ts band (k + 1) = mtS xs ts band k := by
  rw [mtS, if_neg (by rw [getD_of hx, hl, hm, h]; decide)]
theorem mtS_in {xs x : List T3} {ts : List TV} {band : Int} {k n m : Nat} {s : ByteArray} (hl : xs.length = n) (hx : ts[k]? = some (s, x)) (hm : x.length = m) (h : bandOk n m band = true) : mtS xs ts band (k + 1) = mtS xs ts band k ++ [((k : Int), elV xs x band)] := by
  rw [mtS, if_pos (by rw [getD_of hx, hl, hm, h]), getD_of hx]
def mtE (z : Int) (ts : List TV) (xs : List T3) : Int := if (storeB z ts && featsOk 72 xs) = true then 0 else 1
def mtL (z : Int) (ts : List TV) (xs : List T3) : List T2 := if (storeB z ts && featsOk 72 xs) = true then mtS xs ts z ts.length else []
theorem mt_bad {z : Int} {ts : List TV} {xs : List T3} (h : (storeB z ts && featsOk 72 xs) = false) : mtE z ts xs = 1 ∧ mtL z ts xs = [] := by unfold mtE mtL; rw [h]; exact ⟨rfl, rfl⟩
theorem mt_ok {z : Int} {ts : List TV} {xs : List T3} (h : storeB z ts = true) (h' : featsOk 72 xs = true) : mtE z ts xs = 0 ∧ mtL z ts xs = mtS xs ts z ts.length := by unfold mtE mtL; rw [h, h']; exact ⟨rfl, rfl⟩
set_option maxRecDepth 100000 in
set_option maxHeartbeats 8000000 in
theorem matchesOf_any (z : Int) (A B : Option Addr) (n ca m cb : Nat) (ts : List TV) (xs : List T3) (w : World) (hs : TL w w.heap.size A m cb ts) (hr : RdL c3 3 w w.heap.size B n ca xs) (hm : totT ts ≤ 1048576) (hn : n ≤ 1048576) (V0 : storeB z ts = true) (V1 : featsOk 72 xs = true) :
    Calls Try.prog 94 #[.agg #[.int .i64 z, .slice A m cb], .slice B n ca] w fun e w' => ∃ A' n' c', e = .returned (.slice A' n' c') ∧ w'.ownsRow w.heap.size 92 2 (.slice A' n' c') n' ((mtS xs ts z m).flatMap c2) ∧
      (mtS xs ts z m).length = n' ∧ Below w.heap.size w w' := by
  obtain ⟨i0, hi, hz0, hz1, hz2⟩ := info_parts Try.infoMatch
  have hl := Lib.hid hs.len
  have hlx := Lib.hid hr.len
  have hm40 : m ≤ 40 := by have h := storeB_len V0; rw [hl.out] at h; exact h
  have V0 := Lib.hid V0
  have V1 := Lib.hid V1
  have HM := Lib.hid hm
  clear hm
  go_enter Try.func94, Try.ntmps94
  go_wp2_with fail
  have K0 := Blk.new (w) 31 #[.int .i64 z, .slice A m cb]
  have hbv : Below (w).heap.size (w) ((w).alloc (.cells #[.int .i64 z, .slice A m cb] 31)) := (Below.refl _ _).alloc (Nat.le_refl _) _
  replace hs := hs.on hbv
  replace hr := hr.on hbv
  generalize (w).alloc (.cells #[.int .i64 z, .slice A m cb] 31) = v at *
  have HS := Lib.hid hs
  have HR := Lib.hid hr
  clear hs hr
  go_loopw [5, 11] (fun o i wr => ∃ (k m' c' : Nat) (A' : Option Addr), k ≤ m ∧ i = .int .i64 k ∧ o = .slice A' m' c' ∧ Below v.heap.size v wr ∧ wr.ownsRow v.heap.size 92 2 (.slice A' m' c') m' ((mtS xs ts z k).flatMap c2) ∧ Hid ((mtS xs ts z k).length = m')) (fun _ i _ => m - (intOf i).toNat)
  case atStart => exact ⟨0, 0, 0, none, by omega, rfl, rfl, Below.refl _ _, World.ownsRow_nil _ _ _ _, rfl⟩
  case round =>
    obtain ⟨k, m', c', A', hk, rfl, rfl, hb, hw, hm'⟩ := hrel
    have hmk : m' ≤ k := by have := mtS_len xs ts z k; rw [hm'.out] at this; exact this
    by_cases hlt : k < m
    · obtain ⟨b, off, s, B', n', cb', x, rfl, hbl, hx, q0, q1, hx3⟩ := (HS.out.on hb).at_ hlt
      have i1 : (k : Int) < (m : Int) := by omega
      have i2 : (0 : Int) ≤ (k : Int) := by omega
      have hxn : n' ≤ 1048576 := by have h := (totT_mem hx.out HM.out).2; rw [hx3.len] at h; omega
      have VX := Lib.hid (storeB_at V0.out hx.out).2
      have hxl := Lib.hid hx3.len
      have HX := Lib.hid hx3
      have HA := Lib.hid (HR.out.on hb)
      have HW := Lib.hid hw
      have kk := K0.on hb
      have kc0 := kk.cell 0
      have kc1 := kk.cell 1
      simp only [List.getElem?_toArray, List.getElem?_cons_succ, List.getElem?_cons_zero] at kc0 kc1
      have kz := kk.lt
      have hsz := hb.size
      clear hx3 hw
      have hbs : Below wr.heap.size wr (wr.alloc (.cells #[.string s, .slice B' n' cb'] 67)) := (by repeat (first | exact Below.refl _ _ | assumption | refine Below.drew ?_ | refine below_drewN ?_ _ | refine Below.alloc ?_ (by first | omega | (simp <;> omega)) _ | refine Below.setCell ?_ (by first | omega | (simp <;> omega)) _))
      cases hbd : bandOk n n' z with
      | false =>
        have HT := Lib.hid (mtS_off (ts := ts) hlx.out hx.out hxl.out hbd)
        go_wp2_with fail
        with_reducible refine (isBand_any _ _ _ _ (by omega) hxn).mono ?_
        rintro e w' ⟨rfl, rfl⟩
        rw [hbd]
        clear kk kc0 kc1 kz
        go_wp2
        exact ⟨⟨k + 1, m', c', A', by omega, by go_num, rfl, below_on hbs hb, by rw [HT.out]; exact own_below HW.out hbs, by show (mtS xs ts z (k + 1)).length = m'; rw [HT.out, hm'.out]⟩, by simp [intOf]; omega⟩
      | true =>
        have HT := Lib.hid (mtS_in (ts := ts) hlx.out hx.out hxl.out hbd)
        have HBd := Lib.hid hbd
        go_wp2_with fail
        with_reducible refine (isBand_any _ _ _ _ (by omega) hxn).mono ?_
        rintro e w' ⟨rfl, rfl⟩
        rw [hbd]
        go_wp2_with fail
        with_reducible refine (elastic_any _ _ _ _ _ _ xs x z _ (HA.out.on hbs) (HX.out.on hbs) V1.out VX.out HBd.out).mono ?_
        rintro e w3 ⟨rfl, hbw3⟩
        clear kk kc0 kc1 kz
        have HW3 := Lib.hid (own_below (own_below HW.out hbs) hbw3)
        have hb3 := below_on hbw3 (below_on hbs hb)
        obtain ⟨ev, hev⟩ : ∃ ev, elV xs x z = ev := ⟨_, rfl⟩
        rw [hev] at HT
        rw [hev]
        have hsz3 := hb3.size
        clear hev hbd HW hbs
        go_wp2_with (at_builtin; with_reducible refine app_one _ c2_len one2 rfl (.tmp 24) (.tmp 33) 52 rfl v.heap.size 92 i0 _ Try.underlying52 hi hz0 hz1 hz2 rfl (by decide) (by decide) A' m' c' _ rfl (HW3.out.alloc _) w3.heap.size 1 ((k : Int), ev) rfl ?_ (by omega) ?_ ?_)
        · exact news2 (Cell2.new _ _ _ _)
        · simp; omega
        · intro A2 c2' w4 hw4 hbw4
          have hb4 : Below v.heap.size v w4 := (hb3.alloc hb3.size _).trans hbw4
          clear hbw4 hb hb3 HW3
          go_wp2
          exact ⟨⟨k + 1, m' + 1, c2', A2, by omega, by go_num, rfl, hb4, by rw [HT.out, flat_snoc]; exact hw4, by show (mtS xs ts z (k + 1)).length = m' + 1; rw [HT.out, List.length_append, hm'.out]; rfl⟩, by simp [intOf]; omega⟩
    · have hkm : k = m := by omega
      subst hkm
      have HW := Lib.hid hw
      clear hw
      go_wp2
      go_ret
      exact ⟨A', m', c', rfl, own_mono HW.out hbv.size, hm'.out, below_on hb hbv⟩
set_option maxRecDepth 100000 in
set_option maxHeartbeats 8000000 in
theorem l11Matches_ptr (z : Int) (A B : Option Addr) (n ca m cb : Nat) (ts : List TV) (xs : List T3) (w : World) (g0 : Nat) (K0 : Cel w g0 0 (.int .i64 z)) (K1 : Cel w g0 1 (.slice A m cb)) (hs : TL w w.heap.size A m cb ts) (hr : RdL c3 3 w w.heap.size B n ca xs) (hm : totT ts ≤ 1048576) (hn : n ≤ 1048576) (V0 : storeB z ts = true) (V1 : featsOk 72 xs = true) :
    Calls Try.prog 91 #[.pointer (some ⟨g0, 0, none⟩), .slice B n ca] w fun e w' => ∃ A' n' c', e = .returned (.slice A' n' c') ∧ w'.ownsRow w.heap.size 92 2 (.slice A' n' c') n' ((mtS xs ts z m).flatMap c2) ∧
      (mtS xs ts z m).length = n' ∧ Below w.heap.size w w' := by
  obtain ⟨i0, hi, hz0, hz1, hz2⟩ := info_parts Try.infoMatch
  have hl := Lib.hid hs.len
  have hlx := Lib.hid hr.len
  have hm40 : m ≤ 40 := by have h := storeB_len V0; rw [hl.out] at h; exact h
  have V0 := Lib.hid V0
  have V1 := Lib.hid V1
  have HM := Lib.hid hm
  have HS := Lib.hid hs
  have HR := Lib.hid hr
  clear hm hs hr
  have k0 := K0.cell
  have k1 := K1.cell
  have kl := K0.lt
  go_enter Try.func91, Try.ntmps91
  go_wp2_with fail
  clear k0 k1 kl
  go_loopw [5, 6] (fun q i wr => ∃ (k m' c' : Nat) (A' : Option Addr), k ≤ m ∧ i = .int .i64 k ∧ q = .slice A' m' c' ∧ Below w.heap.size w wr ∧ wr.ownsRow w.heap.size 92 2 (.slice A' m' c') m' ((mtS xs ts z k).flatMap c2) ∧ Hid ((mtS xs ts z k).length = m')) (fun _ i _ => m - (intOf i).toNat)
  case atStart => exact ⟨0, 0, 0, _, by omega, rfl, rfl, (by repeat (first | exact Below.refl _ _ | assumption | refine Below.drew ?_ | refine below_drewN ?_ _ | refine Below.alloc ?_ (by first | omega | (simp <;> omega)) _ | refine Below.setCell ?_ (by first | omega | (simp <;> omega)) _)), by simpa [mtS] using World.ownsRow_lit (base := w.heap.size) (e := 92) (size := 2) w #[] 0 (Nat.le_refl _) (by simp [maxLen]) rfl, rfl⟩
  case round =>
    obtain ⟨k, m', c', A', hk, rfl, rfl, hb, hw, hm'⟩ := hrel
    have hmk : m' ≤ k := by have := mtS_len xs ts z k; rw [hm'.out] at this; exact this
    have k0 := (K0.on hb).cell
    have k1 := (K1.on hb).cell
    have kl := (K0.on hb).lt
    by_cases hlt : k < m
    · obtain ⟨b, off, s, B', n', cb', x, rfl, hbl0, hx, p0, p1, hx30⟩ := HS.out.at_ hlt
      have q0 := cell_on2 hb p0
      have q1 := cell_on2 hb p1
      have hx3 := hx30.on hb
      have hbl := Nat.lt_of_lt_of_le hbl0 hb.size
      have P0 := Lib.hid p0
      have P1 := Lib.hid p1
      clear p0 p1 hx30
      have i1 : (k : Int) < (m : Int) := by omega
      have i2 : (0 : Int) ≤ (k : Int) := by omega
      have hxn : n' ≤ 1048576 := by have h := (totT_mem hx.out HM.out).2; rw [hx3.len] at h; omega
      have VX := Lib.hid (storeB_at V0.out hx.out).2
      have hxl := Lib.hid hx3.len
      have HX := Lib.hid hx3
      have HA := Lib.hid (HR.out.on hb)
      have HW := Lib.hid hw
      have hsz := hb.size
      clear hx3 hw
      cases hbd : bandOk n n' z with
      | false =>
        have HT := Lib.hid (mtS_off (ts := ts) hlx.out hx.out hxl.out hbd)
        have HBd := Lib.hid hbd
        clear hbd
        go_wp2_with fail
        go_region_held3 (fun w' => (∀ b o, b < wr.heap.size → w'.cell? ⟨b, o, none⟩ = wr.cell? ⟨b, o, none⟩) ∧ Below wr.heap.size wr w') (first | exact sk (Below.refl _ _).drew | (go_split_ands; exact sk (below_app ‹_› hbw2 (Below.size ‹_›)))) (first | (go_at_call 46; with_reducible refine (l10In_any _ _ _ _ _ _ _ _ (by omega) hxn).mono ?_; rw [HBd.out]; rintro e w2 ⟨rfl, hbw2⟩))
        go_split_ands
        have hb2 : Below w.heap.size w w2 := below_app hb ‹Below wr.heap.size wr w2› hb.size
        have HW2 := Lib.hid (own_below HW.out ‹Below wr.heap.size wr w2›)
        go_wp2
        exact ⟨⟨k + 1, m', c', A', by omega, by go_num, rfl, hb2, by rw [HT.out]; exact HW2.out, by show (mtS xs ts z (k + 1)).length = m'; rw [HT.out, hm'.out]⟩, by simp [intOf]; omega⟩
      | true =>
        have HT := Lib.hid (mtS_in (ts := ts) hlx.out hx.out hxl.out hbd)
        have HBd := Lib.hid hbd
        clear hbd
        go_wp2_with fail
        go_region_held3 (fun w' => (∀ b o, b < wr.heap.size → w'.cell? ⟨b, o, none⟩ = wr.cell? ⟨b, o, none⟩) ∧ Below wr.heap.size wr w') (first | exact sk (Below.refl _ _).drew | (go_split_ands; exact sk (below_app ‹_› hbw2 (Below.size ‹_›)))) (first | (go_at_call 46; with_reducible refine (l10In_any _ _ _ _ _ _ _ _ (by omega) hxn).mono ?_; rw [HBd.out]; rintro e w2 ⟨rfl, hbw2⟩))
        go_split_ands
        have hbb : Below wr.heap.size wr w2 := ‹Below wr.heap.size wr w2›
        rename ∀ (b o : Nat), b < wr.heap.size → w2.cell? ⟨b, o, none⟩ = wr.cell? ⟨b, o, none⟩ => hSS
        clear hSS
        have hb2 : Below w.heap.size w w2 := below_app hb hbb hb.size
        have HW2 := Lib.hid (own_below HW.out hbb)
        replace HX := Lib.hid (HX.out.on hbb)
        replace HA := Lib.hid (HA.out.on hbb)
        have p0 := P0.out
        have p1 := P1.out
        have j0 := K0.cell
        have j1 := K1.cell
        have jl := K0.lt
        clear q0 q1 k0 k1 hbl kl
        have hsz2 := hb2.size
        obtain ⟨ev, hev⟩ : ∃ ev, Hid (elV xs x z = ev) := ⟨_, rfl⟩
        rw [hev.out] at HT
        clear HW hb hbw2 hsz
        clear hbb
        go_wp2_with fail
        go_region_held3 (fun w' => (∀ b o, b < w.heap.size → w'.cell? ⟨b, o, none⟩ = w.cell? ⟨b, o, none⟩) ∧ Below w.heap.size w w')
          (first | exact sk hb2.drew | (go_split_ands; first | exact sk (below_app ‹_› hbw3 (Below.size ‹_›)) | exact sk (Below.alloc ‹_› (Below.size ‹_›) _) | exact sk (Below.trans ‹_› hbw4)))
          (first | ((refine step_one _ c2_len one2 (by rfl) (.tmp 31) (.tmp 48) 52 (by rfl) w.heap.size 92 i0 _ Try.underlying52 hi hz0 hz1 hz2 rfl (by decide) (by decide) A' m' c' _ (by rfl) ((own_below (own_below HW2.out ((Below.refl _ _).drew)) hbw3).alloc _) w3.heap.size 1 ((k : Int), ev) (by rfl) (news2 (Cell2.new _ _ _ _)) (by omega) (by have := hbw3.size; simp at this ⊢; omega) ?_; intro A2 c2' w4 hw4 hbw4)) | (go_at_call 111; with_reducible refine (l09Least_any _ _ _ _ _ _ xs x z _ (HA.out.on (Below.refl _ _).drew) (HX.out.on (Below.refl _ _).drew) V1.out VX.out HBd.out).mono ?_; rw [hev.out]; rintro e w3 ⟨rfl, hbw3⟩))
        go_split_ands
        have hb4 : Below w.heap.size w w4 := ‹_›
        go_wp2
        exact ⟨⟨k + 1, m' + 1, c2', A2, by omega, by go_num, rfl, hb4, by rw [HT.out]; exact hw4, by show (mtS xs ts z (k + 1)).length = m' + 1; rw [HT.out, List.length_append, hm'.out]; rfl⟩, by simp [intOf]; omega⟩
    · have hkm : k = m := by omega
      subst hkm
      have HW := Lib.hid hw
      clear hw
      go_wp2
      go_ret
      exact ⟨A', m', c', rfl, HW.out, hm'.out, hb⟩
end Go.Proofs.Ytkldejbhhbgefaa
