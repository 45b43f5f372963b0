/- The best part of a sequence: the reference's. -/
import Derived.Test.YtfbcnojnpjbghaaPp
import Derived.Test.YtfbcnojnpjbghaaEs
import Derived.Test.YtfbcnojnpjbghaaSu
namespace Go.Proofs.Ytfbcnojnpjbghaa
open Go.ChangeShapes Go.WideShapes Go.ChangeAt Go.RowKit
set_option linter.unusedVariables false
set_option linter.unusedSimpArgs false
def peE (xs ys : List T3) : Int := if (featsOk 72 xs && featsOk 72 ys) = true then 0 else 1
def peR (xs ys : List T3) : Int × Nat × Nat := if (featsOk 72 xs && featsOk 72 ys) = true then psA xs ys ys.length else (0, 0, 0)
theorem pe_bad {xs ys : List T3} (h : (featsOk 72 xs && featsOk 72 ys) = false) : peE xs ys = 1 ∧ peR xs ys = (0, 0, 0) := by unfold peE peR; rw [h]; exact ⟨rfl, rfl⟩
theorem pe_ok {xs ys : List T3} (h : featsOk 72 xs = true) (h' : featsOk 72 ys = true) : peE xs ys = 0 ∧ peR xs ys = psA xs ys ys.length := by unfold peE peR; rw [h, h']; exact ⟨rfl, rfl⟩
theorem elV_part {a b : List T3} {s k : Nat} (hk : 0 < k) (h : s + k ≤ b.length) : elV a ((b.drop s).take k) 72 = dP a b s (a.length - 1) (k - 1) := by
  unfold elV dP
  have hL : ((b.drop s).take k).length = k := by simp; omega
  rw [hL]
  refine tb_cong _ _ _ rfl (fun q hq => ?_)
  rw [List.getD_eq_getElem?_getD, List.getD_eq_getElem?_getD, List.getElem?_take, if_pos (by omega)]
theorem featsOk_part {b : List T3} {s k : Nat} (hb : b.all featOk = true) (hk : 0 < k) (h : s + k ≤ b.length) (h72 : b.length ≤ 72) : featsOk 72 ((b.drop s).take k) = true := by
  have hL : ((b.drop s).take k).length = k := by simp; omega
  have hA : ((b.drop s).take k).all featOk = true := List.all_eq_true.2 (fun x hx => List.all_eq_true.1 hb x (List.mem_of_mem_drop (List.mem_of_mem_take hx)))
  unfold featsOk
  rw [hA, hL]
  exact Bool.and_eq_true_iff.2 ⟨rfl, inB_iff.2 ⟨by omega, by omega⟩⟩
theorem ps_yes {a b : List T3} {e s : Nat} {q : Int × Nat × Nat} {v : Int} (hv : dP a b s (a.length - 1) (e - 1 - s) = v) (h : v < q.1) : psS a b e s q = (v, s, e) := by unfold psS; rw [hv, if_pos h]
theorem ps_no {a b : List T3} {e s : Nat} {q : Int × Nat × Nat} {v : Int} (hv : dP a b s (a.length - 1) (e - 1 - s) = v) (h : ¬ v < q.1) : psS a b e s q = q := by unfold psS; rw [hv, if_neg h]
set_option maxRecDepth 100000 in
set_option maxHeartbeats 4000000 in
theorem sPart_any (A B : Option Addr) (n ca m cb : Nat) (xs ys : List T3) (w : World) (hr : RdL c3 3 w w.heap.size A n ca xs) (hr' : RdL c3 3 w w.heap.size B m cb ys) (hn : n ≤ 1048576) (hm : m ≤ 1048576) :
    Calls Try.prog 11 #[.slice A n ca, .slice B m cb] w fun e w' => e = .returned (.tuple #[.int .i64 (peR xs ys).1, .int .i64 ((peR xs ys).2.1 : Nat), .int .i64 ((peR xs ys).2.2 : Nat), .int .i64 (peE xs ys)]) ∧ Below w.heap.size w w' := by
  have hl := Lib.hid hr.len
  have hl' := Lib.hid hr'.len
  cases h1 : featsOk 72 xs with
  | false =>
    have F := Lib.hid (pe_bad (xs := xs) (ys := ys) (by rw [h1]; rfl))
    go_enter Try.func11, Try.ntmps11
    go_wp2_with fail
    with_reducible refine (l09Ok_any _ _ _ xs _ hr hn).mono ?_
    rintro e w1 ⟨rfl, hbw1⟩
    go_wp2
    rw [F.out.1, F.out.2]
    exact bodyPost_ret (v := .tuple #[.int .i64 0, .int .i64 0, .int .i64 0, .int .i64 1]) (by simp [results, Try.results11, go_sem]) rfl ⟨rfl, hbw1⟩
  | true =>
    have H1 := Lib.hid h1
    cases h2 : featsOk 72 ys with
    | false =>
      have F := Lib.hid (pe_bad (xs := xs) (ys := ys) (by rw [h2, Bool.and_false]))
      go_enter Try.func11, Try.ntmps11
      go_wp2_with fail
      with_reducible refine (l09Ok_any _ _ _ xs _ hr hn).mono ?_
      rintro e w1 ⟨rfl, hbw1⟩
      go_wp2_with fail
      with_reducible refine (l09Ok_any _ _ _ ys _ (hr'.on hbw1) hm).mono ?_
      rintro e w2 ⟨rfl, hbw2⟩
      go_wp2
      rw [F.out.1, F.out.2]
      exact bodyPost_ret (v := .tuple #[.int .i64 0, .int .i64 0, .int .i64 0, .int .i64 1]) (by simp [results, Try.results11, go_sem]) rfl ⟨rfl, below_on hbw2 hbw1⟩
    | true =>
      have H2 := Lib.hid h2
      have F := Lib.hid (pe_ok H1.out H2.out)
      obtain ⟨a0, a1, a2⟩ := featsOk_bd h1
      obtain ⟨b0, b1, b2⟩ := featsOk_bd h2
      have HA := Lib.hid a0
      have HB := Lib.hid b0
      rw [hl.out] at a1 a2
      rw [hl'.out] at b1 b2
      have hn1 : 1 ≤ n := by omega
      have hn72 : n ≤ 72 := by omega
      have hm1 : 1 ≤ m := by omega
      have hm72 : m ≤ 72 := by omega
      clear a0 b0 a1 a2 b1 b2
      go_enter Try.func11, Try.ntmps11
      go_wp2_with fail
      with_reducible refine (l09Ok_any _ _ _ xs _ hr hn).mono ?_
      rintro e w1 ⟨rfl, hbw1⟩
      go_wp2_with fail
      with_reducible refine (l09Ok_any _ _ _ ys _ (hr'.on hbw1) hm).mono ?_
      rintro e w2 ⟨rfl, hbw2⟩
      have hB2 := Lib.hid (below_on hbw2 hbw1)
      have HR := Lib.hid ((hr.on hbw1).on hbw2)
      have HR' := Lib.hid ((hr'.on hbw1).on hbw2)
      obtain ⟨bq, oq, hBq⟩ : ∃ bq oq, B = some ⟨bq, oq, none⟩ := by
        obtain ⟨b, off, _, _, _, e, _⟩ := hr'.at3 (show 0 < m by omega)
        exact ⟨b, off, e⟩
      subst hBq
      have hcb := hr'.cap
      clear hr hr' hbw1 hbw2 hn hm
      go_wp2
      clear h1 h2
      go_loopw [8, 9, 10, 11] (fun v8 v9 v10 v11 wr => ∃ (k : Nat) (p : Int × Nat × Nat), k ≤ m ∧ v11 = .int .i64 ((k : Int) + 1) ∧ v8 = .int .i64 p.1 ∧ v9 = .int .i64 p.2.1 ∧ v10 = .int .i64 p.2.2 ∧ Hid (psA xs ys k = p) ∧ Below w2.heap.size w2 wr) (fun _ _ _ v _ => m + 1 - (intOf v).toNat)
      case atStart => exact ⟨0, (1000000000, 0, 0), by omega, rfl, rfl, rfl, rfl, rfl, Below.refl _ _⟩
      case round =>
        rename World => wr
        obtain ⟨k, p, hk, rfl, rfl, rfl, rfl, hp, hb⟩ := hrel
        by_cases hlt : k < m
        · have i1 : ((k : Int) + 1) ≤ (m : Int) := by omega
          have o1 : IntKind.i64.wrap (((k : Int) + 1) - 1) = (k : Int) := by rw [IntWalk.i64_in _ (by omega)]; omega
          go_wp2
          clear o1 i1
          go_loopw [8, 9, 10, 12] (fun v8 v9 v10 v12 wz => ∃ (t : Nat) (z : Int) (q : Int × Nat × Nat), t ≤ k + 1 ∧ z = (k : Int) - t ∧ v12 = .int .i64 z ∧ v8 = .int .i64 q.1 ∧ v9 = .int .i64 q.2.1 ∧ v10 = .int .i64 q.2.2 ∧ Hid (psB xs ys (k + 1) p t = q) ∧ Below w2.heap.size w2 wz) (fun _ _ _ v _ => (intOf v + 1).toNat)
          case atStart => exact ⟨0, k, p, by omega, by omega, rfl, rfl, rfl, rfl, rfl, hb⟩
          case round =>
            clear hb
            rename World => wz
            obtain ⟨t, z, q, ht, hz, rfl, rfl, rfl, rfl, hq, hb⟩ := hrel
            by_cases htk : t ≤ k
            · obtain ⟨s, hs⟩ : ∃ s, k = s + t := ⟨k - t, by omega⟩
              have hzs : z = (s : Int) := by omega
              subst hzs
              have i0 : (0 : Int) ≤ (s : Int) := by omega
              have j0 : ((k : Int) + 1).toNat = k + 1 := by omega
              have j1 : (s : Int) ≤ ((k : Int) + 1) := by omega
              have j2 : ((k : Int) + 1) ≤ (cb : Int) := by omega
              have j3 : ¬ cb = s := by omega
              have e1 : k + 1 - s = t + 1 := by omega
              have HS := RdL.sub c3_len (HR'.out.on hb) (a := s) (k := t + 1) (by omega)
              have FK : Hid (featsOk 72 ((ys.drop s).take (t + 1)) = true) := featsOk_part HB.out (by omega) (by have := hl'.out; omega) (by have := hl'.out; omega)
              have BK : Hid (bandOk n (t + 1) 72 = true) := bandOk_yes (inB_iff.2 ⟨by omega, by omega⟩) (by omega)
              have EV : Hid (elV xs ((ys.drop s).take (t + 1)) 72 = dP xs ys s (xs.length - 1) (k + 1 - 1 - s)) := by
                have h9 := elV_part (a := xs) (b := ys) (s := s) (k := t + 1) (by omega) (by have := hl'.out; omega)
                unfold Hid
                rw [h9, show k + 1 - 1 - s = t + 1 - 1 by omega]
              obtain ⟨v, hv⟩ : ∃ v, Hid (elV xs ((ys.drop s).take (t + 1)) 72 = v) := ⟨_, rfl⟩
              have EV2 : Hid (dP xs ys s (xs.length - 1) (k + 1 - 1 - s) = v) := EV.out.symm.trans hv.out
              have PB : Hid (psB xs ys (k + 1) p (t + 1) = psS xs ys (k + 1) s q) := by
                unfold Hid
                rw [psB, hq.out, show k + 1 - 1 - t = s by omega]
              have HSK := Lib.hid hs
              clear EV hz hs
              have HS := Lib.hid HS
              go_wp2_with fail
              with_reducible refine (l09Least_any _ _ _ _ _ _ xs _ 72 _ (HR.out.on hb) HS.out H1.out FK.out BK.out).mono ?_
              rintro e w3 ⟨rfl, hbw3⟩
              rw [hv.out]
              have hb3 := below_app hb hbw3 hb.size
              clear hbw3 j0 j1 j2 j3 e1
              by_cases hlt9 : v < q.1
              · have P9 : Hid (psB xs ys (k + 1) p (t + 1) = (v, s, k + 1)) := by unfold Hid; rw [PB.out]; exact ps_yes EV2.out hlt9
                have o1 : IntKind.i64.wrap ((s : Int) - 1) = (s : Int) - 1 := IntWalk.i64_in _ (by have := HSK.out; omega)
                go_wp2
                exact ⟨⟨t + 1, (s : Int) - 1, (v, s, k + 1), by omega, by have := HSK.out; omega, rfl, rfl, rfl, rfl, P9, hb3⟩, by simp [intOf] <;> omega⟩
              · have P9 : Hid (psB xs ys (k + 1) p (t + 1) = q) := by unfold Hid; rw [PB.out]; exact ps_no EV2.out hlt9
                have o1 : IntKind.i64.wrap ((s : Int) - 1) = (s : Int) - 1 := IntWalk.i64_in _ (by have := HSK.out; omega)
                go_wp2
                exact ⟨⟨t + 1, (s : Int) - 1, q, by omega, by have := HSK.out; omega, rfl, rfl, rfl, rfl, P9, hb3⟩, by simp [intOf] <;> omega⟩
            · obtain rfl : t = k + 1 := by omega
              obtain rfl : z = -1 := by omega
              have P9 : Hid (psA xs ys (k + 1) = q) := by
                unfold Hid
                have h9 := psA_step HA.out HB.out (by have := hl.out; omega) (by have := hl'.out; omega) (by have := hl.out; omega) (k := k) (by have := hl'.out; omega)
                rw [← h9, hp.out]; exact hq.out
              have o1 : IntKind.i64.wrap (((k : Int) + 1) + 1) = (((k + 1 : Nat) : Int) + 1) := by rw [IntWalk.i64_in _ (by omega)]; omega
              go_wp2
              exact ⟨⟨k + 1, q, by omega, by go_num, rfl, rfl, rfl, P9, hb⟩, by simp [intOf]; omega⟩
        · have hkm : k = m := by omega
          subst hkm
          have hR : Hid (peR xs ys = p) := by unfold Hid; rw [F.out.2, hl'.out]; exact hp.out
          have i1 : ¬ ((k : Int) + 1) ≤ (k : Int) := by omega
          have i2 : (k : Int) < ((k : Int) + 1) := by omega
          go_wp2
          rw [F.out.1, hR.out]
          exact bodyPost_ret (v := .tuple #[.int .i64 p.1, .int .i64 p.2.1, .int .i64 p.2.2, .int .i64 0]) (by simp [results, Try.results11, go_sem]) rfl ⟨rfl, below_app hB2.out hb hB2.out.size⟩
end Go.Proofs.Ytfbcnojnpjbghaa
