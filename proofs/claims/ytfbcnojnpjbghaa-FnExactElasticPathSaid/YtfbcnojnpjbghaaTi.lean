/- The path of least cost: the program's. -/
import Derived.Test.YtfbcnojnpjbghaaTr
import Derived.Test.YtfbcnojnpjbghaaIc
namespace Go.Proofs.Ytfbcnojnpjbghaa
open Go.ChangeShapes Go.WideShapes Go.ChangeAt Go.RowKit
set_option linter.unusedVariables false
set_option linter.unusedSimpArgs false
theorem set_back (p : Nat) (z x y : Value) (R : List Value) : ((List.replicate ((p + 1) * 2) z ++ R).set (p * 2) x).set (p * 2 + 1) y = List.replicate (p * 2) z ++ (x :: y :: R) := by
  rw [show (p + 1) * 2 = p * 2 + 2 by omega, ← List.replicate_append_replicate, List.append_assoc]
  simp [List.set_append, List.replicate]
theorem put2_back {w : World} {base g n k : Nat} {e : TypeId} {z : Value} {l : List T2} (h : w.ownsRow base e 2 (.slice (some ⟨g, 0, none⟩) n n) n (List.replicate ((n - k) * 2) z ++ l.flatMap c2)) (hk : k < n) (x y : Int) :
    ((w.setCell ⟨g, (n - 1 - k) * 2, none⟩ (.int .i64 x)).setCell ⟨g, (n - 1 - k) * 2 + 1, none⟩ (.int .i64 y)).ownsRow base e 2 (.slice (some ⟨g, 0, none⟩) n n) n (List.replicate ((n - (k + 1)) * 2) z ++ ((x, y) :: l).flatMap c2) := by
  have h1 := ((h.stored ((n - 1 - k) * 2) (.int .i64 x)).1.stored ((n - 1 - k) * 2 + 1) (.int .i64 y)).1
  rw [show n - k = (n - 1 - k) + 1 by omega, set_back, show n - 1 - k = n - (k + 1) by omega] at h1
  rw [show n - 1 - k = n - (k + 1) by omega]
  exact h1
theorem CT.below9 {w w' : World} {g n m : Nat} {F : Nat → Nat → Int} (h : CT w g n m F) (hb : Below w.heap.size w w') : CT w' g n m F := h.on hb
set_option maxRecDepth 100000 in
set_option maxHeartbeats 16000000 in
theorem iPathE_any (A B : Option Addr) (n ca m cb : Nat) (xs ys : List T3) (band : Int) (w : World) (hr : RdL c3 3 w w.heap.size A n ca xs) (hr' : RdL c3 3 w w.heap.size B m cb ys) (hn : n ≤ 1048576) (hm : m ≤ 1048576) :
    Calls Try.prog 24 #[.slice A n ca, .slice B m cb, .int .i64 band] w fun e w' => ∃ A' k c', e = .returned (.tuple #[.slice A' k c', .int .i64 (elE xs ys band)]) ∧ w'.ownsRow w.heap.size 85 2 (.slice A' k c') k ((epL xs ys band).flatMap c2) ∧ (epL xs ys band).length = k ∧ k ≤ 1048576 ∧ Below w.heap.size w w' := by
  obtain ⟨i0, hi, hz0, hz1, hz2⟩ := info_parts Try.infoPair
  have k0 : ∀ w, (Instr.index 72 steps3 (.int .i64 0)).run Try.prog w = .ok (.agg #[.int .i64 1, .int .i64 1]) w := fun _ => by kernel_rfl
  have k1 : ∀ w, (Instr.index 72 steps3 (.int .i64 1)).run Try.prog w = .ok (.agg #[.int .i64 1, .int .i64 0]) w := fun _ => by kernel_rfl
  have k2 : ∀ w, (Instr.index 72 steps3 (.int .i64 2)).run Try.prog w = .ok (.agg #[.int .i64 0, .int .i64 1]) w := fun _ => by kernel_rfl
  have hl := Lib.hid hr.len
  have hl' := Lib.hid hr'.len
  by_cases hE : elE xs ys band = 0
  · have HE := Lib.hid hE
    have HF : Hid (epL xs ys band = pthL xs ys band) := if_pos hE
    go_enter Try.func24, Try.ntmps24
    go_wp2_with fail
    with_reducible refine (matchable_any _ _ _ _ _ _ xs ys band _ hr hr' hn hm).mono ?_
    rintro e w1 ⟨rfl, hbw1⟩
    obtain ⟨f1, f2, f3⟩ := elE_inv HE.out
    rw [hl.out, hl'.out] at f3
    obtain ⟨a0, a1, a2⟩ := featsOk_bd f1
    obtain ⟨b0, b1, b2⟩ := featsOk_bd f2
    rw [hl.out] at a1 a2
    rw [hl'.out] at b1 b2
    have hn1 : 1 ≤ n := by omega
    have hn72 : n ≤ 72 := by omega
    have hm1 : 1 ≤ m := by omega
    have hm72 : m ≤ 72 := by omega
    clear hn hm a1 a2 b1 b2
    obtain ⟨⟨h0, h1⟩, w2'⟩ := bandOk_iff.1 f3
    clear f1 f2 f3
    have HAW : Hid (away (n - 1) (m - 1) ≤ band) := by unfold Hid away; omega
    clear w2'
    go_wp2_with fail
    with_reducible refine (costTable_any _ _ _ _ _ _ xs ys band _ (hr.on hbw1) (hr'.on hbw1) a0 b0 hn1 hn72 hm1 hm72 h0 h1).mono ?_
    rintro e w2 ⟨rfl, hct, hlt2, hbw2⟩
    have HT := Lib.hid hct
    have HA := Lib.hid a0
    have HB := Lib.hid b0
    replace hbw1 := below_on hbw2 hbw1
    have hg9 : w1.heap.size ≤ w2.heap.size := hbw2.size
    clear hct hE a0 b0 hr hr' hbw2
    go_wp2
    go_loopw [10, 11, 12] (fun qi qj q wr => ∃ (i j k c' f : Nat) (A' : Option Addr) (l : List P2), i < n ∧ j < m ∧ 1 ≤ k ∧ qi = .int .i64 i ∧ qj = .int .i64 j ∧ q = .slice A' k c' ∧ Below w2.heap.size w2 wr ∧ wr.ownsRow w2.heap.size 85 2 (.slice A' k c') k ((l.map c2n).flatMap c2) ∧
      Hid (l.length = k ∧ bkI xs ys band l f i j ∧ away i j ≤ band)) (fun qi qj _ _ => (intOf qi + intOf qj).toNat)
    case atStart =>
      refine ⟨n - 1, m - 1, 1, 1, n + m, some ⟨w2.heap.size, 0, none⟩, [(n - 1, m - 1)], by omega, by omega, by omega, by go_num, by go_num, rfl, (by repeat (first | exact Below.refl _ _ | assumption | refine Below.drew ?_ | refine below_drewN ?_ _ | refine Below.alloc ?_ (by first | omega | (simp <;> omega)) _ | refine Below.setCell ?_ (by first | omega | (simp <;> omega)) _)), ?_, ⟨rfl, ?_, HAW.out⟩⟩
      · have e1 : ((n : Int) - 1) = ((n - 1 : Nat) : Int) := by omega
        have e2 : ((m : Int) - 1) = ((m - 1 : Nat) : Int) := by omega
        simp only [e1, e2]
        exact World.ownsRow_lit (base := w2.heap.size) (e := 85) (size := 2) w2 #[.int .i64 ((n - 1 : Nat) : Int), .int .i64 ((m - 1 : Nat) : Int)] 1 (Nat.le_refl _) (by simp [maxLen]) rfl
      · have := bkI_start xs ys band; rwa [hl.out, hl'.out] at this
    case round =>
      rename World => wr
      obtain ⟨i, j, k, c', f, A', l, hin, hjm, hk1, rfl, rfl, rfl, hb, hw, hI⟩ := hrel
      have HWr := Lib.hid hw
      clear hw
      by_cases hp : i = 0 ∧ j = 0
      · obtain ⟨rfl, rfl⟩ := hp
        have hkb := bkI_len hI.out.2.1
        rw [hI.out.1, hl.out, hl'.out] at hkb
        have e := bkI_end hI.out.2.1 ⟨rfl, rfl⟩
        have E2 : Hid (pthL xs ys band = (l.map c2n).reverse) := by unfold Hid pthL; rw [e, List.map_reverse]
        have hll : (l.map c2n).length = k := by rw [List.length_map]; exact hI.out.1
        have HLL := Lib.hid hll
        clear e hll k0 k1 k2
        obtain ⟨L2, hL2⟩ : ∃ L2 : List T2, Hid (l.map c2n = L2) := ⟨_, rfl⟩
        rw [hL2.out] at HWr E2 HLL
        have hrR := Lib.hid (RdL.of_own HLL.out HWr.out)
        clear HWr
        go_wp2_with (refine wpList_make_full _ rfl _ _ _ rfl wr.heap.size 85 i0 _ 2 Try.underlying42 hi hz0 hz1 .i64 .i64 k k k rfl rfl rfl rfl (by rw [hz2]; omega) (by unfold maxLen; omega) (Nat.le_refl _) ?_; intro w3 hown hg)
        rw [made2] at hown
        have hbg : Below wr.heap.size wr w3 := (Below.refl _ _).grown hg (Nat.le_refl _) (fun k h => by cases h)
        clear hg
        go_loopw [101] (fun q wz => ∃ k9 : Nat, k9 ≤ k ∧ q = .int .i64 k9 ∧ Below wr.heap.size wr wz ∧
          wz.ownsRow wr.heap.size 85 2 (.slice (some ⟨wr.heap.size, 0, none⟩) k k) k (List.replicate ((k - k9) * 2) (.int .i64 0) ++ (L2.take k9).reverse.flatMap c2)) (fun q _ => k - (intOf q).toNat)
        case atStart => exact ⟨0, by omega, rfl, hbg, by simpa using hown⟩
        case round =>
          clear hown hbg
          rename World => wz
          obtain ⟨k9, hk9, rfl, hbz, hw⟩ := hrel
          by_cases hlt : k9 < k
          · obtain ⟨b, off, x, y, rfl, hbl, hx, q0, q1⟩ := (hrR.out.below hbz).at2 hlt
            have HW := Lib.hid hw
            obtain ⟨⟨v0, e0⟩, f0⟩ := own_cell hw (j := (k - 1 - k9) * 2) (by omega)
            obtain ⟨⟨v1, e1⟩, f1⟩ := own_cell hw (j := (k - 1 - k9) * 2 + 1) (by omega)
            clear hw
            have i1 : (k9 : Int) < (k : Int) := by omega
            have i2 : (0 : Int) ≤ (k9 : Int) := by omega
            have o1 : IntKind.i64.wrap ((k : Int) - 1) = (k : Int) - 1 := IntWalk.i64_in _ (by omega)
            have o2 : IntKind.i64.wrap ((k : Int) - 1 - (k9 : Int)) = (k : Int) - 1 - (k9 : Int) := IntWalk.i64_in _ (by omega)
            have o3 : (0 : Int) ≤ (k : Int) - 1 - (k9 : Int) := by omega
            have o4 : (k : Int) - 1 - (k9 : Int) < (k : Int) := by omega
            have o5 : ((k : Int) - 1 - (k9 : Int)).toNat = k - 1 - k9 := by omega
            have hsz := hbz.size
            have hz9 : wr.heap.size < wz.heap.size := World.block_lt_of_cell? wz _ e0
            have hbl9 := Nat.lt_of_lt_of_le hbl hsz
            go_wp2
            clear o1 o2 o5
            refine ⟨⟨k9 + 1, by omega, by go_num, (by repeat (first | exact Below.refl _ _ | assumption | refine Below.drew ?_ | refine below_drewN ?_ _ | refine Below.alloc ?_ (by first | omega | (simp <;> omega)) _ | refine Below.setCell ?_ (by first | omega | (simp <;> omega)) _)), ?_⟩, by simp [intOf]; omega⟩
            rw [take_succ_of hx.out, List.reverse_append]
            exact (put2_back HW.out hlt x y).alloc _
          · have hkn : k9 = k := by omega
            subst hkn
            have HW := Lib.hid hw
            clear hw
            go_wp2
            go_ret2
            rw [HF.out, E2.out]
            have h9 := HW.out
            rw [List.take_of_length_le (by rw [HLL.out]; exact Nat.le_refl _)] at h9
            exact ⟨_, _, _, by rw [HE.out]; rfl, own_mono (by simpa using h9) (Nat.le_trans hbw1.size hb.size), by rw [List.length_reverse]; exact HLL.out, by omega, below_app (below_app hbw1 hb hbw1.size) hbz (Nat.le_trans hbw1.size hb.size)⟩
      · have hln := bkI_lt hI.out.2.1 hp
        rw [hI.out.1, hl.out, hl'.out] at hln
        have la : xs.length ≤ 72 := by rw [hl.out]; exact hn72
        have lb : ys.length ≤ 72 := by rw [hl'.out]; exact hm72
        have li : i < xs.length := by rw [hl.out]; exact hin
        have lj : j < ys.length := by rw [hl'.out]; exact hjm
        have S3 := Lib.hid (stp_cases HA.out HB.out la lb h0 (inf := 1099511627776) (by omega) li lj hI.out.2.2 hp)
        have HL := Lib.hid (tb_ahead HA.out HB.out la lb h0 (inf := 1099511627776) (by omega) li lj hI.out.2.2 hp).1
        clear la lb li lj
        have HP := Lib.hid hp
        obtain ⟨L, hL⟩ : ∃ L, Hid (tb 1099511627776 xs ys band i j - cst xs ys i j = L) := ⟨_, rfl⟩
        rw [hL.out] at S3 HL
        have e1i : (i : Int) < (n : Int) := by omega
        have e2i : (0 : Int) ≤ (i : Int) := by omega
        have e3i : (j : Int) < (m : Int) := by omega
        have e4i : (0 : Int) ≤ (j : Int) := by omega
        rcases S3.out with ⟨ki, kj, KD, KS, KW⟩ | ⟨ki, KD, KU, KS, KW⟩ | ⟨kj, KD, KU, KL, KS, KW⟩
        · have ci : (0 : Int) < (i : Int) := by omega
          have ci1 : (1 : Int) ≤ (i : Int) := by omega
          have cj : (0 : Int) < (j : Int) := by omega
          have cj1 : (1 : Int) ≤ (j : Int) := by omega
          have HST := Lib.hid KS
          have HAW2 := Lib.hid KW
          clear KS KW
          have HKD := Lib.hid KD
          clear KD
          go_wp2_with fail
          with_reducible refine (leastBefore_any _ n n m i j (tb 1099511627776 xs ys band) _ hin hjm (by omega) (by omega) ((HT.out.below9 hb).ahd hin hjm)).mono ?_
          rintro e w4 ⟨rfl, hbw4⟩
          rw [HL.out]
          go_wp2_with fail
          with_reducible refine (stepsBack_any _).mono ?_
          rintro e w5 ⟨rfl, hbw5⟩
          have hb5 : Below wr.heap.size wr w5 := below_on hbw5 hbw4
          have HW5 := Lib.hid (own_below HWr.out hb5)
          replace hb := below_app hb hb5 hb.size
          clear hbw4 hbw5 hb5 HWr ci cj
          go_wp2
          go_loopw [10, 11, 51] (fun qi qj q wz => ∃ k9 : Nat, k9 ≤ 0 ∧ q = .int .i64 k9 ∧ qi = .int .i64 i ∧ qj = .int .i64 j ∧ Below w5.heap.size w5 wz) (fun _ _ q _ => 3 - (intOf q).toNat)
          case atStart => exact ⟨0, by omega, rfl, rfl, rfl, Below.refl _ _⟩
          case round =>
            rename World => wz
            obtain ⟨k9, hk9, rfl, rfl, rfl, hbz⟩ := hrel
            have HWz := Lib.hid (own_below HW5.out hbz)
            have hb2 := below_app hb hbz hb.size
            have hsz := hb2.size
            match k9, hk9 with
            | 0, _ =>
              clear k1
              clear k2
              have zr : Below w2.heap.size w2 (wz.alloc (.cells #[.int .i64 1, .int .i64 1] 71)) := hb2.alloc hsz _
              have zz : Below wz.heap.size wz (wz.alloc (.cells #[.int .i64 1, .int .i64 1] 71)) := (Below.refl _ _).alloc (Nat.le_refl _) _
              obtain ⟨bp, h1, h2⟩ := HT.out (i - 1) (by omega)
              have h3 := h2 (j - 1) (by omega)
              rw [HKD.out] at h3
              replace h1 := cell_on2 hb2 h1
              replace h3 := cell_on2 hb2 h3
              have z1 := World.block_lt_of_cell? wz _ h1
              have z2 := World.block_lt_of_cell? wz _ h3
              simp only at z1 z2
              clear h2
              have o1 : IntKind.i64.wrap ((i : Int) - 1) = ((i : Int) - 1) := IntWalk.i64_in _ (by omega)
              have o2 : IntKind.i64.wrap ((j : Int) - 1) = ((j : Int) - 1) := IntWalk.i64_in _ (by omega)
              have o3 : (0 : Int) ≤ ((i : Int) - 1) := by omega
              have o4 : ((i : Int) - 1) < (n : Int) := by omega
              have o5 : (((i : Int) - 1)).toNat = (i - 1) := by omega
              have o6 : (0 : Int) ≤ ((j : Int) - 1) := by omega
              have o7 : ((j : Int) - 1) < (m : Int) := by omega
              have o8 : (((j : Int) - 1)).toNat = (j - 1) := by omega
              go_wp2
              go_quiet (fail)
              clear o5 o8
              go_wp2
              go_quiet (fail)
              clear o1 o2
              go_wp2_with (at_builtin; with_reducible refine app_one _ c2_len one2 rfl (.tmp 90) (.tmp 94) 42 rfl w2.heap.size 85 i0 _ Try.underlying42 hi hz0 hz1 hz2 rfl (by decide) (by decide) A' k c' _ rfl ((own_below HWz.out (by repeat (first | exact Below.refl _ _ | assumption | refine Below.drew ?_ | refine below_drewN ?_ _ | refine Below.alloc ?_ (by first | omega | (simp <;> omega)) _ | refine Below.setCell ?_ (by first | omega | (simp <;> omega)) _))).alloc _) _ 1 (((i : Int) - 1), ((j : Int) - 1)) rfl ?_ (by omega) ?_ ?_)
              · exact news2 ⟨by go_simp, by go_simp⟩
              · simp; omega
              · intro A2 c2' w6 hw6 hbw6
                replace hw6 := Lib.hid hw6
                have hb6 : Below w2.heap.size w2 w6 := Below.trans (by repeat (first | exact Below.refl _ _ | assumption | refine Below.drew ?_ | refine below_drewN ?_ _ | refine Below.alloc ?_ (by first | omega | (simp <;> omega)) _ | refine Below.setCell ?_ (by first | omega | (simp <;> omega)) _)) hbw6
                clear hbw6
                go_wp2
                refine ⟨⟨(i - 1), (j - 1), k + 1, c2', f - 1, A2, l ++ [((i - 1), (j - 1))], by omega, by omega, by omega, by go_num, by go_num, rfl, hb6, ?_, ⟨by rw [List.length_append, hI.out.1]; rfl, bkI_step hI.out.2.1 HP.out HST.out (by omega), HAW2.out⟩⟩, by simp [intOf]; omega⟩
                rw [List.map_append, List.map_cons, List.map_nil, show c2n ((i - 1), (j - 1)) = (((i : Int) - 1), ((j : Int) - 1)) by unfold c2n; simp <;> omega]
                simpa using hw6.out
        · by_cases kj : 0 < j
          · replace KD := KD kj
            have ci : (0 : Int) < (i : Int) := by omega
            have ci1 : (1 : Int) ≤ (i : Int) := by omega
            have cj : (0 : Int) < (j : Int) := by omega
            have cj1 : (1 : Int) ≤ (j : Int) := by omega
            have HST := Lib.hid KS
            have HAW2 := Lib.hid KW
            clear KS KW
            have HKD := Lib.hid KD
            clear KD
            have HKU := Lib.hid KU
            clear KU
            go_wp2_with fail
            with_reducible refine (leastBefore_any _ n n m i j (tb 1099511627776 xs ys band) _ hin hjm (by omega) (by omega) ((HT.out.below9 hb).ahd hin hjm)).mono ?_
            rintro e w4 ⟨rfl, hbw4⟩
            rw [HL.out]
            go_wp2_with fail
            with_reducible refine (stepsBack_any _).mono ?_
            rintro e w5 ⟨rfl, hbw5⟩
            have hb5 : Below wr.heap.size wr w5 := below_on hbw5 hbw4
            have HW5 := Lib.hid (own_below HWr.out hb5)
            replace hb := below_app hb hb5 hb.size
            clear hbw4 hbw5 hb5 HWr ci cj
            go_wp2
            go_loopw [10, 11, 51] (fun qi qj q wz => ∃ k9 : Nat, k9 ≤ 1 ∧ q = .int .i64 k9 ∧ qi = .int .i64 i ∧ qj = .int .i64 j ∧ Below w5.heap.size w5 wz) (fun _ _ q _ => 3 - (intOf q).toNat)
            case atStart => exact ⟨0, by omega, rfl, rfl, rfl, Below.refl _ _⟩
            case round =>
              rename World => wz
              obtain ⟨k9, hk9, rfl, rfl, rfl, hbz⟩ := hrel
              have HWz := Lib.hid (own_below HW5.out hbz)
              have hb2 := below_app hb hbz hb.size
              have hsz := hb2.size
              match k9, hk9 with
              | 0, _ =>
                clear k1
                clear k2
                have zr : Below w2.heap.size w2 (wz.alloc (.cells #[.int .i64 1, .int .i64 1] 71)) := hb2.alloc hsz _
                have zz : Below wz.heap.size wz (wz.alloc (.cells #[.int .i64 1, .int .i64 1] 71)) := (Below.refl _ _).alloc (Nat.le_refl _) _
                obtain ⟨bp, h1, h2⟩ := HT.out (i - 1) (by omega)
                have h3 := h2 (j - 1) (by omega)
                obtain ⟨v, hv⟩ : ∃ v, Hid (tb 1099511627776 xs ys band (i - 1) (j - 1) = v) := ⟨_, rfl⟩
                rw [hv.out] at h3
                have nv : (v == L) = false := by have h9 := HKD.out; rw [hv.out] at h9; simpa using h9
                replace h1 := cell_on2 hb2 h1
                replace h3 := cell_on2 hb2 h3
                have z1 := World.block_lt_of_cell? wz _ h1
                have z2 := World.block_lt_of_cell? wz _ h3
                simp only at z1 z2
                clear h2
                have o1 : IntKind.i64.wrap ((i : Int) - 1) = ((i : Int) - 1) := IntWalk.i64_in _ (by omega)
                have o2 : IntKind.i64.wrap ((j : Int) - 1) = ((j : Int) - 1) := IntWalk.i64_in _ (by omega)
                have o3 : (0 : Int) ≤ ((i : Int) - 1) := by omega
                have o4 : ((i : Int) - 1) < (n : Int) := by omega
                have o5 : (((i : Int) - 1)).toNat = (i - 1) := by omega
                have o6 : (0 : Int) ≤ ((j : Int) - 1) := by omega
                have o7 : ((j : Int) - 1) < (m : Int) := by omega
                have o8 : (((j : Int) - 1)).toNat = (j - 1) := by omega
                go_wp2
                go_quiet (fail)
                clear o1 o2 o5 o8
                go_wp2
                exact ⟨⟨1, by omega, by go_num, rfl, rfl, below_app hbz (below_drewN zz _) hbz.size⟩, by simp [intOf]⟩
              | 1, _ =>
                clear k0
                clear k2
                have zr : Below w2.heap.size w2 (wz.alloc (.cells #[.int .i64 1, .int .i64 0] 71)) := hb2.alloc hsz _
                have zz : Below wz.heap.size wz (wz.alloc (.cells #[.int .i64 1, .int .i64 0] 71)) := (Below.refl _ _).alloc (Nat.le_refl _) _
                obtain ⟨bp, h1, h2⟩ := HT.out (i - 1) (by omega)
                have h3 := h2 j (by omega)
                rw [HKU.out] at h3
                replace h1 := cell_on2 hb2 h1
                replace h3 := cell_on2 hb2 h3
                have z1 := World.block_lt_of_cell? wz _ h1
                have z2 := World.block_lt_of_cell? wz _ h3
                simp only at z1 z2
                clear h2
                have o1 : IntKind.i64.wrap ((i : Int) - 1) = ((i : Int) - 1) := IntWalk.i64_in _ (by omega)
                have o2 : IntKind.i64.wrap (j : Int) = (j : Int) := IntWalk.i64_in _ (by omega)
                have o3 : (0 : Int) ≤ ((i : Int) - 1) := by omega
                have o4 : ((i : Int) - 1) < (n : Int) := by omega
                have o5 : (((i : Int) - 1)).toNat = (i - 1) := by omega
                have o6 : (0 : Int) ≤ (j : Int) := by omega
                have o7 : (j : Int) < (m : Int) := by omega
                have o8 : ((j : Int)).toNat = j := by omega
                go_wp2
                go_quiet (fail)
                clear o5 o8
                go_wp2
                go_quiet (fail)
                clear o1 o2
                go_wp2_with (at_builtin; with_reducible refine app_one _ c2_len one2 rfl (.tmp 90) (.tmp 94) 42 rfl w2.heap.size 85 i0 _ Try.underlying42 hi hz0 hz1 hz2 rfl (by decide) (by decide) A' k c' _ rfl ((own_below HWz.out (by repeat (first | exact Below.refl _ _ | assumption | refine Below.drew ?_ | refine below_drewN ?_ _ | refine Below.alloc ?_ (by first | omega | (simp <;> omega)) _ | refine Below.setCell ?_ (by first | omega | (simp <;> omega)) _))).alloc _) _ 1 (((i : Int) - 1), (j : Int)) rfl ?_ (by omega) ?_ ?_)
                · exact news2 ⟨by go_simp, by go_simp⟩
                · simp; omega
                · intro A2 c2' w6 hw6 hbw6
                  replace hw6 := Lib.hid hw6
                  have hb6 : Below w2.heap.size w2 w6 := Below.trans (by repeat (first | exact Below.refl _ _ | assumption | refine Below.drew ?_ | refine below_drewN ?_ _ | refine Below.alloc ?_ (by first | omega | (simp <;> omega)) _ | refine Below.setCell ?_ (by first | omega | (simp <;> omega)) _)) hbw6
                  clear hbw6
                  go_wp2
                  refine ⟨⟨(i - 1), j, k + 1, c2', f - 1, A2, l ++ [((i - 1), j)], by omega, by omega, by omega, by go_num, by go_num, rfl, hb6, ?_, ⟨by rw [List.length_append, hI.out.1]; rfl, bkI_step hI.out.2.1 HP.out HST.out (by omega), HAW2.out⟩⟩, by simp [intOf]; omega⟩
                  rw [List.map_append, List.map_cons, List.map_nil, show c2n ((i - 1), j) = (((i : Int) - 1), (j : Int)) by unfold c2n; simp <;> omega]
                  simpa using hw6.out
          · clear KD
            have ci : (0 : Int) < (i : Int) := by omega
            have ci1 : (1 : Int) ≤ (i : Int) := by omega
            have cj : (j : Int) ≤ 0 := by omega
            have cj1 : ¬ (1 : Int) ≤ (j : Int) := by omega
            have HST := Lib.hid KS
            have HAW2 := Lib.hid KW
            clear KS KW
            have HKU := Lib.hid KU
            clear KU
            go_wp2_with fail
            with_reducible refine (leastBefore_any _ n n m i j (tb 1099511627776 xs ys band) _ hin hjm (by omega) (by omega) ((HT.out.below9 hb).ahd hin hjm)).mono ?_
            rintro e w4 ⟨rfl, hbw4⟩
            rw [HL.out]
            go_wp2_with fail
            with_reducible refine (stepsBack_any _).mono ?_
            rintro e w5 ⟨rfl, hbw5⟩
            have hb5 : Below wr.heap.size wr w5 := below_on hbw5 hbw4
            have HW5 := Lib.hid (own_below HWr.out hb5)
            replace hb := below_app hb hb5 hb.size
            clear hbw4 hbw5 hb5 HWr ci cj
            go_wp2
            go_loopw [10, 11, 51] (fun qi qj q wz => ∃ k9 : Nat, k9 ≤ 1 ∧ q = .int .i64 k9 ∧ qi = .int .i64 i ∧ qj = .int .i64 j ∧ Below w5.heap.size w5 wz) (fun _ _ q _ => 3 - (intOf q).toNat)
            case atStart => exact ⟨0, by omega, rfl, rfl, rfl, Below.refl _ _⟩
            case round =>
              rename World => wz
              obtain ⟨k9, hk9, rfl, rfl, rfl, hbz⟩ := hrel
              have HWz := Lib.hid (own_below HW5.out hbz)
              have hb2 := below_app hb hbz hb.size
              have hsz := hb2.size
              match k9, hk9 with
              | 0, _ =>
                clear k1
                clear k2
                have zr : Below w2.heap.size w2 (wz.alloc (.cells #[.int .i64 1, .int .i64 1] 71)) := hb2.alloc hsz _
                have zz : Below wz.heap.size wz (wz.alloc (.cells #[.int .i64 1, .int .i64 1] 71)) := (Below.refl _ _).alloc (Nat.le_refl _) _
                go_wp2
                have dj : decide ((1 : Int) ≤ (j : Int)) = false := decide_eq_false (by omega)
                go_quiet (fail)
                go_wp2
                exact ⟨⟨1, by omega, by go_num, rfl, rfl, below_app hbz (below_drewN zz _) hbz.size⟩, by simp [intOf]⟩
              | 1, _ =>
                clear k0
                clear k2
                have zr : Below w2.heap.size w2 (wz.alloc (.cells #[.int .i64 1, .int .i64 0] 71)) := hb2.alloc hsz _
                have zz : Below wz.heap.size wz (wz.alloc (.cells #[.int .i64 1, .int .i64 0] 71)) := (Below.refl _ _).alloc (Nat.le_refl _) _
                obtain ⟨bp, h1, h2⟩ := HT.out (i - 1) (by omega)
                have h3 := h2 j (by omega)
                rw [HKU.out] at h3
                replace h1 := cell_on2 hb2 h1
                replace h3 := cell_on2 hb2 h3
                have z1 := World.block_lt_of_cell? wz _ h1
                have z2 := World.block_lt_of_cell? wz _ h3
                simp only at z1 z2
                clear h2
                have o1 : IntKind.i64.wrap ((i : Int) - 1) = ((i : Int) - 1) := IntWalk.i64_in _ (by omega)
                have o2 : IntKind.i64.wrap (j : Int) = (j : Int) := IntWalk.i64_in _ (by omega)
                have o3 : (0 : Int) ≤ ((i : Int) - 1) := by omega
                have o4 : ((i : Int) - 1) < (n : Int) := by omega
                have o5 : (((i : Int) - 1)).toNat = (i - 1) := by omega
                have o6 : (0 : Int) ≤ (j : Int) := by omega
                have o7 : (j : Int) < (m : Int) := by omega
                have o8 : ((j : Int)).toNat = j := by omega
                go_wp2
                have dj : decide ((1 : Int) ≤ (j : Int)) = false := decide_eq_false (by omega)
                go_quiet (fail)
                clear o5 o8
                go_wp2
                go_quiet (fail)
                clear o1 o2
                go_wp2_with (at_builtin; with_reducible refine app_one _ c2_len one2 rfl (.tmp 90) (.tmp 94) 42 rfl w2.heap.size 85 i0 _ Try.underlying42 hi hz0 hz1 hz2 rfl (by decide) (by decide) A' k c' _ rfl ((own_below HWz.out (by repeat (first | exact Below.refl _ _ | assumption | refine Below.drew ?_ | refine below_drewN ?_ _ | refine Below.alloc ?_ (by first | omega | (simp <;> omega)) _ | refine Below.setCell ?_ (by first | omega | (simp <;> omega)) _))).alloc _) _ 1 (((i : Int) - 1), (j : Int)) rfl ?_ (by omega) ?_ ?_)
                · exact news2 ⟨by go_simp, by go_simp⟩
                · simp; omega
                · intro A2 c2' w6 hw6 hbw6
                  replace hw6 := Lib.hid hw6
                  have hb6 : Below w2.heap.size w2 w6 := Below.trans (by repeat (first | exact Below.refl _ _ | assumption | refine Below.drew ?_ | refine below_drewN ?_ _ | refine Below.alloc ?_ (by first | omega | (simp <;> omega)) _ | refine Below.setCell ?_ (by first | omega | (simp <;> omega)) _)) hbw6
                  clear hbw6
                  go_wp2
                  refine ⟨⟨(i - 1), j, k + 1, c2', f - 1, A2, l ++ [((i - 1), j)], by omega, by omega, by omega, by go_num, by go_num, rfl, hb6, ?_, ⟨by rw [List.length_append, hI.out.1]; rfl, bkI_step hI.out.2.1 HP.out HST.out (by omega), HAW2.out⟩⟩, by simp [intOf]; omega⟩
                  rw [List.map_append, List.map_cons, List.map_nil, show c2n ((i - 1), j) = (((i : Int) - 1), (j : Int)) by unfold c2n; simp <;> omega]
                  simpa using hw6.out
        · by_cases ki : 0 < i
          · replace KD := KD ki
            replace KU := KU ki
            have ci : (0 : Int) < (i : Int) := by omega
            have ci1 : (1 : Int) ≤ (i : Int) := by omega
            have cj : (0 : Int) < (j : Int) := by omega
            have cj1 : (1 : Int) ≤ (j : Int) := by omega
            have HST := Lib.hid KS
            have HAW2 := Lib.hid KW
            clear KS KW
            have HKD := Lib.hid KD
            clear KD
            have HKU := Lib.hid KU
            clear KU
            have HKL := Lib.hid KL
            clear KL
            go_wp2_with fail
            with_reducible refine (leastBefore_any _ n n m i j (tb 1099511627776 xs ys band) _ hin hjm (by omega) (by omega) ((HT.out.below9 hb).ahd hin hjm)).mono ?_
            rintro e w4 ⟨rfl, hbw4⟩
            rw [HL.out]
            go_wp2_with fail
            with_reducible refine (stepsBack_any _).mono ?_
            rintro e w5 ⟨rfl, hbw5⟩
            have hb5 : Below wr.heap.size wr w5 := below_on hbw5 hbw4
            have HW5 := Lib.hid (own_below HWr.out hb5)
            replace hb := below_app hb hb5 hb.size
            clear hbw4 hbw5 hb5 HWr ci cj
            go_wp2
            go_loopw [10, 11, 51] (fun qi qj q wz => ∃ k9 : Nat, k9 ≤ 2 ∧ q = .int .i64 k9 ∧ qi = .int .i64 i ∧ qj = .int .i64 j ∧ Below w5.heap.size w5 wz) (fun _ _ q _ => 3 - (intOf q).toNat)
            case atStart => exact ⟨0, by omega, rfl, rfl, rfl, Below.refl _ _⟩
            case round =>
              rename World => wz
              obtain ⟨k9, hk9, rfl, rfl, rfl, hbz⟩ := hrel
              have HWz := Lib.hid (own_below HW5.out hbz)
              have hb2 := below_app hb hbz hb.size
              have hsz := hb2.size
              match k9, hk9 with
              | 0, _ =>
                clear k1
                clear k2
                have zr : Below w2.heap.size w2 (wz.alloc (.cells #[.int .i64 1, .int .i64 1] 71)) := hb2.alloc hsz _
                have zz : Below wz.heap.size wz (wz.alloc (.cells #[.int .i64 1, .int .i64 1] 71)) := (Below.refl _ _).alloc (Nat.le_refl _) _
                obtain ⟨bp, h1, h2⟩ := HT.out (i - 1) (by omega)
                have h3 := h2 (j - 1) (by omega)
                obtain ⟨v, hv⟩ : ∃ v, Hid (tb 1099511627776 xs ys band (i - 1) (j - 1) = v) := ⟨_, rfl⟩
                rw [hv.out] at h3
                have nv : (v == L) = false := by have h9 := HKD.out; rw [hv.out] at h9; simpa using h9
                replace h1 := cell_on2 hb2 h1
                replace h3 := cell_on2 hb2 h3
                have z1 := World.block_lt_of_cell? wz _ h1
                have z2 := World.block_lt_of_cell? wz _ h3
                simp only at z1 z2
                clear h2
                have o1 : IntKind.i64.wrap ((i : Int) - 1) = ((i : Int) - 1) := IntWalk.i64_in _ (by omega)
                have o2 : IntKind.i64.wrap ((j : Int) - 1) = ((j : Int) - 1) := IntWalk.i64_in _ (by omega)
                have o3 : (0 : Int) ≤ ((i : Int) - 1) := by omega
                have o4 : ((i : Int) - 1) < (n : Int) := by omega
                have o5 : (((i : Int) - 1)).toNat = (i - 1) := by omega
                have o6 : (0 : Int) ≤ ((j : Int) - 1) := by omega
                have o7 : ((j : Int) - 1) < (m : Int) := by omega
                have o8 : (((j : Int) - 1)).toNat = (j - 1) := by omega
                go_wp2
                go_quiet (fail)
                clear o1 o2 o5 o8
                go_wp2
                exact ⟨⟨1, by omega, by go_num, rfl, rfl, below_app hbz (below_drewN zz _) hbz.size⟩, by simp [intOf]⟩
              | 1, _ =>
                clear k0
                clear k2
                have zr : Below w2.heap.size w2 (wz.alloc (.cells #[.int .i64 1, .int .i64 0] 71)) := hb2.alloc hsz _
                have zz : Below wz.heap.size wz (wz.alloc (.cells #[.int .i64 1, .int .i64 0] 71)) := (Below.refl _ _).alloc (Nat.le_refl _) _
                obtain ⟨bp, h1, h2⟩ := HT.out (i - 1) (by omega)
                have h3 := h2 j (by omega)
                obtain ⟨v, hv⟩ : ∃ v, Hid (tb 1099511627776 xs ys band (i - 1) j = v) := ⟨_, rfl⟩
                rw [hv.out] at h3
                have nv : (v == L) = false := by have h9 := HKU.out; rw [hv.out] at h9; simpa using h9
                replace h1 := cell_on2 hb2 h1
                replace h3 := cell_on2 hb2 h3
                have z1 := World.block_lt_of_cell? wz _ h1
                have z2 := World.block_lt_of_cell? wz _ h3
                simp only at z1 z2
                clear h2
                have o1 : IntKind.i64.wrap ((i : Int) - 1) = ((i : Int) - 1) := IntWalk.i64_in _ (by omega)
                have o2 : IntKind.i64.wrap (j : Int) = (j : Int) := IntWalk.i64_in _ (by omega)
                have o3 : (0 : Int) ≤ ((i : Int) - 1) := by omega
                have o4 : ((i : Int) - 1) < (n : Int) := by omega
                have o5 : (((i : Int) - 1)).toNat = (i - 1) := by omega
                have o6 : (0 : Int) ≤ (j : Int) := by omega
                have o7 : (j : Int) < (m : Int) := by omega
                have o8 : ((j : Int)).toNat = j := by omega
                go_wp2
                go_quiet (fail)
                clear o1 o2 o5 o8
                go_wp2
                exact ⟨⟨2, by omega, by go_num, rfl, rfl, below_app hbz (below_drewN zz _) hbz.size⟩, by simp [intOf]⟩
              | 2, _ =>
                clear k0
                clear k1
                have zr : Below w2.heap.size w2 (wz.alloc (.cells #[.int .i64 0, .int .i64 1] 71)) := hb2.alloc hsz _
                have zz : Below wz.heap.size wz (wz.alloc (.cells #[.int .i64 0, .int .i64 1] 71)) := (Below.refl _ _).alloc (Nat.le_refl _) _
                obtain ⟨bp, h1, h2⟩ := HT.out i (by omega)
                have h3 := h2 (j - 1) (by omega)
                rw [HKL.out] at h3
                replace h1 := cell_on2 hb2 h1
                replace h3 := cell_on2 hb2 h3
                have z1 := World.block_lt_of_cell? wz _ h1
                have z2 := World.block_lt_of_cell? wz _ h3
                simp only at z1 z2
                clear h2
                have o1 : IntKind.i64.wrap (i : Int) = (i : Int) := IntWalk.i64_in _ (by omega)
                have o2 : IntKind.i64.wrap ((j : Int) - 1) = ((j : Int) - 1) := IntWalk.i64_in _ (by omega)
                have o3 : (0 : Int) ≤ (i : Int) := by omega
                have o4 : (i : Int) < (n : Int) := by omega
                have o5 : ((i : Int)).toNat = i := by omega
                have o6 : (0 : Int) ≤ ((j : Int) - 1) := by omega
                have o7 : ((j : Int) - 1) < (m : Int) := by omega
                have o8 : (((j : Int) - 1)).toNat = (j - 1) := by omega
                go_wp2
                go_quiet (fail)
                clear o5 o8
                go_wp2
                go_quiet (fail)
                clear o1 o2
                go_wp2_with (at_builtin; with_reducible refine app_one _ c2_len one2 rfl (.tmp 90) (.tmp 94) 42 rfl w2.heap.size 85 i0 _ Try.underlying42 hi hz0 hz1 hz2 rfl (by decide) (by decide) A' k c' _ rfl ((own_below HWz.out (by repeat (first | exact Below.refl _ _ | assumption | refine Below.drew ?_ | refine below_drewN ?_ _ | refine Below.alloc ?_ (by first | omega | (simp <;> omega)) _ | refine Below.setCell ?_ (by first | omega | (simp <;> omega)) _))).alloc _) _ 1 ((i : Int), ((j : Int) - 1)) rfl ?_ (by omega) ?_ ?_)
                · exact news2 ⟨by go_simp, by go_simp⟩
                · simp; omega
                · intro A2 c2' w6 hw6 hbw6
                  replace hw6 := Lib.hid hw6
                  have hb6 : Below w2.heap.size w2 w6 := Below.trans (by repeat (first | exact Below.refl _ _ | assumption | refine Below.drew ?_ | refine below_drewN ?_ _ | refine Below.alloc ?_ (by first | omega | (simp <;> omega)) _ | refine Below.setCell ?_ (by first | omega | (simp <;> omega)) _)) hbw6
                  clear hbw6
                  go_wp2
                  refine ⟨⟨i, (j - 1), k + 1, c2', f - 1, A2, l ++ [(i, (j - 1))], by omega, by omega, by omega, by go_num, by go_num, rfl, hb6, ?_, ⟨by rw [List.length_append, hI.out.1]; rfl, bkI_step hI.out.2.1 HP.out HST.out (by omega), HAW2.out⟩⟩, by simp [intOf]; omega⟩
                  rw [List.map_append, List.map_cons, List.map_nil, show c2n (i, (j - 1)) = ((i : Int), ((j : Int) - 1)) by unfold c2n; simp <;> omega]
                  simpa using hw6.out
          · clear KD KU
            have ci : (i : Int) ≤ 0 := by omega
            have ci1 : ¬ (1 : Int) ≤ (i : Int) := by omega
            have cj : (0 : Int) < (j : Int) := by omega
            have cj1 : (1 : Int) ≤ (j : Int) := by omega
            have HST := Lib.hid KS
            have HAW2 := Lib.hid KW
            clear KS KW
            have HKL := Lib.hid KL
            clear KL
            go_wp2_with fail
            with_reducible refine (leastBefore_any _ n n m i j (tb 1099511627776 xs ys band) _ hin hjm (by omega) (by omega) ((HT.out.below9 hb).ahd hin hjm)).mono ?_
            rintro e w4 ⟨rfl, hbw4⟩
            rw [HL.out]
            go_wp2_with fail
            with_reducible refine (stepsBack_any _).mono ?_
            rintro e w5 ⟨rfl, hbw5⟩
            have hb5 : Below wr.heap.size wr w5 := below_on hbw5 hbw4
            have HW5 := Lib.hid (own_below HWr.out hb5)
            replace hb := below_app hb hb5 hb.size
            clear hbw4 hbw5 hb5 HWr ci cj
            go_wp2
            go_loopw [10, 11, 51] (fun qi qj q wz => ∃ k9 : Nat, k9 ≤ 2 ∧ q = .int .i64 k9 ∧ qi = .int .i64 i ∧ qj = .int .i64 j ∧ Below w5.heap.size w5 wz) (fun _ _ q _ => 3 - (intOf q).toNat)
            case atStart => exact ⟨0, by omega, rfl, rfl, rfl, Below.refl _ _⟩
            case round =>
              rename World => wz
              obtain ⟨k9, hk9, rfl, rfl, rfl, hbz⟩ := hrel
              have HWz := Lib.hid (own_below HW5.out hbz)
              have hb2 := below_app hb hbz hb.size
              have hsz := hb2.size
              match k9, hk9 with
              | 0, _ =>
                clear k1
                clear k2
                have zr : Below w2.heap.size w2 (wz.alloc (.cells #[.int .i64 1, .int .i64 1] 71)) := hb2.alloc hsz _
                have zz : Below wz.heap.size wz (wz.alloc (.cells #[.int .i64 1, .int .i64 1] 71)) := (Below.refl _ _).alloc (Nat.le_refl _) _
                go_wp2
                have di : decide ((1 : Int) ≤ (i : Int)) = false := decide_eq_false (by omega)
                go_quiet (fail)
                go_wp2
                exact ⟨⟨1, by omega, by go_num, rfl, rfl, below_app hbz (below_drewN zz _) hbz.size⟩, by simp [intOf]⟩
              | 1, _ =>
                clear k0
                clear k2
                have zr : Below w2.heap.size w2 (wz.alloc (.cells #[.int .i64 1, .int .i64 0] 71)) := hb2.alloc hsz _
                have zz : Below wz.heap.size wz (wz.alloc (.cells #[.int .i64 1, .int .i64 0] 71)) := (Below.refl _ _).alloc (Nat.le_refl _) _
                go_wp2
                have di : decide ((1 : Int) ≤ (i : Int)) = false := decide_eq_false (by omega)
                go_quiet (fail)
                go_wp2
                exact ⟨⟨2, by omega, by go_num, rfl, rfl, below_app hbz (below_drewN zz _) hbz.size⟩, by simp [intOf]⟩
              | 2, _ =>
                clear k0
                clear k1
                have zr : Below w2.heap.size w2 (wz.alloc (.cells #[.int .i64 0, .int .i64 1] 71)) := hb2.alloc hsz _
                have zz : Below wz.heap.size wz (wz.alloc (.cells #[.int .i64 0, .int .i64 1] 71)) := (Below.refl _ _).alloc (Nat.le_refl _) _
                obtain ⟨bp, h1, h2⟩ := HT.out i (by omega)
                have h3 := h2 (j - 1) (by omega)
                rw [HKL.out] at h3
                replace h1 := cell_on2 hb2 h1
                replace h3 := cell_on2 hb2 h3
                have z1 := World.block_lt_of_cell? wz _ h1
                have z2 := World.block_lt_of_cell? wz _ h3
                simp only at z1 z2
                clear h2
                have o1 : IntKind.i64.wrap (i : Int) = (i : Int) := IntWalk.i64_in _ (by omega)
                have o2 : IntKind.i64.wrap ((j : Int) - 1) = ((j : Int) - 1) := IntWalk.i64_in _ (by omega)
                have o3 : (0 : Int) ≤ (i : Int) := by omega
                have o4 : (i : Int) < (n : Int) := by omega
                have o5 : ((i : Int)).toNat = i := by omega
                have o6 : (0 : Int) ≤ ((j : Int) - 1) := by omega
                have o7 : ((j : Int) - 1) < (m : Int) := by omega
                have o8 : (((j : Int) - 1)).toNat = (j - 1) := by omega
                go_wp2
                have di : decide ((1 : Int) ≤ (i : Int)) = false := decide_eq_false (by omega)
                go_quiet (fail)
                clear o5 o8
                go_wp2
                go_quiet (fail)
                clear o1 o2
                go_wp2_with (at_builtin; with_reducible refine app_one _ c2_len one2 rfl (.tmp 90) (.tmp 94) 42 rfl w2.heap.size 85 i0 _ Try.underlying42 hi hz0 hz1 hz2 rfl (by decide) (by decide) A' k c' _ rfl ((own_below HWz.out (by repeat (first | exact Below.refl _ _ | assumption | refine Below.drew ?_ | refine below_drewN ?_ _ | refine Below.alloc ?_ (by first | omega | (simp <;> omega)) _ | refine Below.setCell ?_ (by first | omega | (simp <;> omega)) _))).alloc _) _ 1 ((i : Int), ((j : Int) - 1)) rfl ?_ (by omega) ?_ ?_)
                · exact news2 ⟨by go_simp, by go_simp⟩
                · simp; omega
                · intro A2 c2' w6 hw6 hbw6
                  replace hw6 := Lib.hid hw6
                  have hb6 : Below w2.heap.size w2 w6 := Below.trans (by repeat (first | exact Below.refl _ _ | assumption | refine Below.drew ?_ | refine below_drewN ?_ _ | refine Below.alloc ?_ (by first | omega | (simp <;> omega)) _ | refine Below.setCell ?_ (by first | omega | (simp <;> omega)) _)) hbw6
                  clear hbw6
                  go_wp2
                  refine ⟨⟨i, (j - 1), k + 1, c2', f - 1, A2, l ++ [(i, (j - 1))], by omega, by omega, by omega, by go_num, by go_num, rfl, hb6, ?_, ⟨by rw [List.length_append, hI.out.1]; rfl, bkI_step hI.out.2.1 HP.out HST.out (by omega), HAW2.out⟩⟩, by simp [intOf]; omega⟩
                  rw [List.map_append, List.map_cons, List.map_nil, show c2n (i, (j - 1)) = ((i : Int), ((j : Int) - 1)) by unfold c2n; simp <;> omega]
                  simpa using hw6.out
  · have hE' : (elE xs ys band == 0) = false := by simpa using hE
    have hE2 : (elE xs ys band != 0) = true := by simpa using hE
    have HR : Hid (epL xs ys band = []) := if_neg hE
    clear hE k0 k1 k2
    go_enter Try.func24, Try.ntmps24
    go_wp2_with fail
    with_reducible refine (matchable_any _ _ _ _ _ _ xs ys band _ hr hr' hn hm).mono ?_
    rintro e w1 ⟨rfl, hbw1⟩
    go_wp2
    go_ret2
    rw [HR.out]
    exact ⟨none, 0, 0, rfl, World.ownsRow_nil _ _ _ _, rfl, by decide, hbw1⟩
end Go.Proofs.Ytfbcnojnpjbghaa
