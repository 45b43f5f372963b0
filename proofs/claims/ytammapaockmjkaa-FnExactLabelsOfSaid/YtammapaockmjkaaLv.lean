/- LabelsOf: the reference's, walked. -/
import Derived.Test.YtammapaockmjkaaLu
namespace Go.Proofs.Ytammapaockmjkaa
open Go.ChangeShapes Go.WideShapes Go.ChangeAt Go.RowKit
set_option linter.unusedVariables false
set_option linter.unusedSimpArgs false
def insK (ts : List TV) (k : Nat) : List SL8 := (lbs (ts.take k)).foldl insL []
theorem insK_succ {ts : List TV} {k : Nat} {s : ByteArray} {x : List T3} (h : ts[k]? = some (s, x)) : insK ts (k + 1) = insL (insK ts k) s.data.toList := by
  unfold insK lbs; rw [take_succ_of h]; simp
theorem insK_all {z : Int} {ts : List TV} {k : Nat} (h : ts.length ≤ k) (hv : storeB z ts = true) : lbE z ts = 0 ∧ lbL z ts = (insK ts k).map b8 := by
  obtain ⟨h1, h2⟩ := lb_ok hv
  refine ⟨h1, h2.trans ?_⟩
  unfold insK
  rw [List.take_of_length_le h, fold_sorted]
set_option maxHeartbeats 4000000 in
theorem sLabels_any (z : Int) (A : Option Addr) (m cb : Nat) (ts : List TV) (w : World) (hs : TL w w.heap.size A m cb ts) (hm : totT ts ≤ 1048576) :
    Calls Try.prog 60 #[.agg #[.int .i64 z, .slice A m cb]] w fun e w' => ∃ A' n' c', e = .returned (.tuple #[.slice A' n' c', .int .i64 (lbE z ts)]) ∧ w'.ownsRow w.heap.size 9 1 (.slice A' n' c') n' ((lbL z ts).flatMap cs1) ∧
      (lbL z ts).length = n' ∧ n' ≤ 1048576 ∧ Below w.heap.size w w' := by
  have hl := Lib.hid hs.len
  have HM := Lib.hid hm
  clear hm
  cases h0 : storeB z ts with
  | false =>
    have F := Lib.hid (lb_bad h0)
    have H0 := Lib.hid h0
    clear h0
    go_enter Try.func60, Try.ntmps60
    go_wp2_with fail
    have K0 := Blk.new (w) 31 #[.int .i64 z, .slice A m cb]
    have hbv : Below (w).heap.size (w) ((w).alloc (.cells #[.int .i64 z, .slice A m cb] 31)) := (Below.refl _ _).alloc (Nat.le_refl _) _
    replace hs := hs.on hbv
    generalize (w).alloc (.cells #[.int .i64 z, .slice A m cb] 31) = v at *
    with_reducible refine (l11Ok_ptr z _ _ _ ts _ _ (Blk.at2 K0).1 (Blk.at2 K0).2 hs HM.out).mono ?_
    rintro e w1 ⟨rfl, hb1⟩
    rw [H0.out]
    clear hs
    go_wp2
    go_ret2
    rw [F.out.1, F.out.2]
    exact ⟨none, 0, 0, rfl, World.ownsRow_nil _ _ _ _, rfl, by decide, below_on hb1 hbv⟩
  | true =>
    have F := Lib.hid (insK_all (k := m) (by rw [hl.out]; exact Nat.le_refl _) h0)
    have H0 := Lib.hid h0
    have hm40 : m ≤ 40 := by have h := storeB_len H0.out; rw [hl.out] at h; exact h
    clear h0
    go_enter Try.func60, Try.ntmps60
    go_wp2_with fail
    have K0 := Blk.new (w) 31 #[.int .i64 z, .slice A m cb]
    have hbv : Below (w).heap.size (w) ((w).alloc (.cells #[.int .i64 z, .slice A m cb] 31)) := (Below.refl _ _).alloc (Nat.le_refl _) _
    replace hs := hs.on hbv
    generalize (w).alloc (.cells #[.int .i64 z, .slice A m cb] 31) = v at *
    with_reducible refine (l11Ok_ptr z _ _ _ ts _ _ (Blk.at2 K0).1 (Blk.at2 K0).2 hs HM.out).mono ?_
    rintro e w1 ⟨rfl, hb1⟩
    rw [H0.out]
    replace hs := hs.on hb1
    have KK := Lib.hid (K0.on hb1)
    replace hbv := below_on hb1 hbv
    have HS := Lib.hid hs
    have hzv := hbv.size
    clear hs K0 hb1
    go_wp2_with fail
    go_loopw [4, 5] (fun q i wr => ∃ (k n' c' g : Nat), k ≤ m ∧ i = .int .i64 k ∧ q = .slice (some ⟨g, 0, none⟩) n' c' ∧ Below w1.heap.size w1 wr ∧ Hid (wr.ownsRow w1.heap.size 9 1 (.slice (some ⟨g, 0, none⟩) n' c') n' (((insK ts k).map b8).flatMap cs1)) ∧ Hid ((insK ts k).length = n') ∧ n' ≤ k) (fun _ i _ => m - (intOf i).toNat)
    case atStart => exact ⟨0, 0, 0, _, by omega, rfl, rfl, (by repeat (first | exact Below.refl _ _ | assumption | refine Below.drew ?_ | refine below_drewN ?_ _ | refine Below.alloc ?_ (by first | omega | (simp <;> omega)) _ | refine Below.setCell ?_ (by first | omega | (simp <;> omega)) _)), by unfold Hid; simpa [insK, lbs] using World.ownsRow_lit (base := w1.heap.size) (e := 9) (size := 1) w1 #[] 0 (Nat.le_refl _) (by simp [maxLen]) rfl, rfl, by omega⟩
    case round =>
      obtain ⟨k, n', c', g, hk, rfl, rfl, hb, HW, hin, hnk⟩ := hrel
      have K9 := KK.out.on hb
      have kc0 := K9.cell 0
      have kc1 := K9.cell 1
      simp only [List.getElem?_toArray, List.getElem?_cons_succ, List.getElem?_cons_zero] at kc0 kc1
      have kz := K9.lt
      have hsz := hb.size
      by_cases hlt : k < m
      · obtain ⟨b, off, s, B', m', cb', x, rfl, hbl, hx, q0, q1, hx3⟩ := (HS.out.on hb).at_ hlt
        have HT := Lib.hid (insK_succ hx.out)
        have hss : s.size ≤ maxLen := by have h : s.size ≤ 1048576 := (totT_mem hx.out HM.out).1; unfold maxLen; omega
        have i1 : (k : Int) < (m : Int) := by omega
        have i2 : (0 : Int) ≤ (k : Int) := by omega
        have HR := Lib.hid (RdL.of_own (f := cs1) (s := 1) (by rw [List.length_map]; exact hin.out) HW.out)
        clear hx3
        go_wp2_with fail
        clear kc0 kc1 q0 q1
        with_reducible refine (l11Insert_any g n' c' (insK ts k) s _ HR.out (by omega) hss).mono ?_
        rintro e w2 ⟨g2, n2, c2, rfl, hlen, hn2, hcase, hb2⟩
        have hb3 := below_app hb hb2 hb.size
        have HW2 : Hid (w2.ownsRow w1.heap.size 9 1 (.slice (some ⟨g2, 0, none⟩) n2 c2) n2 (((insK ts (k + 1)).map b8).flatMap cs1)) := by
          unfold Hid
          rw [HT.out]
          rcases hcase with ⟨rfl, rfl, rfl, he⟩ | ho
          · rw [he]; exact own_below HW.out hb2
          · exact own_mono ho hsz
        clear hcase HW HR
        go_wp2
        exact ⟨⟨k + 1, n2, c2, g2, by omega, by go_num, rfl, hb3, HW2, by unfold Hid; rw [HT.out]; exact hlen, by omega⟩, by simp [intOf]; omega⟩
      · have hkm : k = m := by omega
        subst hkm
        go_wp2
        go_ret2
        rw [F.out.1, F.out.2]
        exact ⟨_, n', c', rfl, own_mono HW.out (by omega), by rw [List.length_map]; exact hin.out, by omega, below_on hb hbv⟩
end Go.Proofs.Ytammapaockmjkaa
