/- StoreText: the program's. -/
import Derived.Test.YtnjifhlabbejoaaGreatDoorBd
import Derived.Test.YtnjifhlabbejoaaGreatDoorFu
import Derived.Test.YtnjifhlabbejoaaGreatDoorSt
namespace Go.Proofs.YtnjifhlabbejoaaGreatDoor
open Go.ChangeShapes Go.WideShapes Go.ChangeAt Go.RowKit
set_option linter.unusedVariables false
set_option linter.unusedSimpArgs false
theorem sk2B {W w' : World} {B : Nat} (h : Below B W w') : ∀ b o, b < B → w'.cell? ⟨b, o, none⟩ = W.cell? ⟨b, o, none⟩ := fun b o hb => h.cell (p := ⟨b, o, none⟩) hb
def tmT (t : TV) : ByteArray := ⟨#[116, 101, 109, 112, 108, 97, 116, 101, 32]⟩ ++ t.1 ++ ⟨#[32]⟩ ++ ftT t.2 ++ ⟨#[10]⟩
def stP (z : Int) (ts : List TV) : Nat → ByteArray
  | 0 => ⟨#[115, 116, 111, 114, 101, 32]⟩ ++ decS z ++ ⟨#[10]⟩
  | k + 1 => stP z ts k ++ tmT (ts.getD k (⟨#[]⟩, []))
theorem stP_step {z : Int} {ts : List TV} {k : Nat} {s : ByteArray} {x : List T3} (h : ts[k]? = some (s, x)) : stP z ts (k + 1) = stP z ts k ++ tmT (s, x) := by rw [stP, getD_of h]
def stR (z : Int) (ts : List TV) : ByteArray := if storeB z ts = true then stP z ts ts.length else ⟨#[]⟩
set_option maxRecDepth 100000 in
set_option maxHeartbeats 8000000 in
theorem iStoreText_any (z : Int) (A : Option Addr) (m cb : Nat) (ts : List TV) (w : World) (hs : TL w w.heap.size A m cb ts) (hm : totT ts ≤ 1048576) (ht : TabD w) :
    Calls Tryz.prog 16 #[.agg #[.int .i64 z, .slice A m cb]] w fun e w' => e = .returned (.string (stR z ts)) ∧ Below w.heap.size w w' := by
  have hl := Lib.hid hs.len
  have HM := Lib.hid hm
  clear hm
  cases h0 : storeB z ts with
  | false =>
    have F : Hid (stR z ts = ⟨#[]⟩) := by show _ = _; unfold stR; rw [h0]; rfl
    have H0 := Lib.hid h0
    clear h0
    go_enter Tryz.func16, Tryz.ntmps16
    go_wp2_with fail
    have K0 := Blk.new (w) 24 #[.int .i64 z, .slice A m cb]
    have hbv : Below (w).heap.size (w) ((w).alloc (.cells #[.int .i64 z, .slice A m cb] 24)) := (Below.refl _ _).alloc (Nat.le_refl _) _
    replace hs := hs.on hbv
    generalize (w).alloc (.cells #[.int .i64 z, .slice A m cb] 24) = v at *
    with_reducible refine (iValidStore_any z _ _ _ ts _ hs HM.out).mono ?_
    rintro e w1 ⟨rfl, hb1⟩
    rw [H0.out]
    clear hs
    go_wp2
    go_ret
    rw [F.out]
    exact ⟨rfl, below_on hb1 hbv⟩
  | true =>
    have F : Hid (stR z ts = stP z ts m) := by show _ = _; unfold stR; rw [h0, hl.out]; rfl
    have H0 := Lib.hid h0
    have hm40 : m ≤ 40 := by have h := storeB_len h0; rw [hl.out] at h; exact h
    have hzI : I64 z := by have h := storeB_band h0; exact ⟨by omega, by omega⟩
    clear h0
    go_enter Tryz.func16, Tryz.ntmps16
    go_wp2_with fail
    have K0 := Blk.new (w) 24 #[.int .i64 z, .slice A m cb]
    have hbv : Below (w).heap.size (w) ((w).alloc (.cells #[.int .i64 z, .slice A m cb] 24)) := (Below.refl _ _).alloc (Nat.le_refl _) _
    replace hs := hs.on hbv
    generalize (w).alloc (.cells #[.int .i64 z, .slice A m cb] 24) = v at *
    with_reducible refine (iValidStore_any z _ _ _ ts _ hs HM.out).mono ?_
    rintro e w1 ⟨rfl, hb1⟩
    rw [H0.out]
    replace hs := hs.on hb1
    replace K0 := K0.on hb1
    replace hbv := below_on hb1 hbv
    have HT := Lib.hid (ht.on hbv)
    have e0 := K0.cell 0
    have e1 := K0.cell 1
    simp only [List.getElem?_toArray, List.getElem?_cons_succ, List.getElem?_cons_zero] at e0 e1
    have ze := K0.lt
    clear ht
    go_wp2_with fail
    clear e0 e1
    have HS := Lib.hid hs
    have HBV := Lib.hid hbv
    have KB := Blk.new (w1) 67 #[.pointer none, .slice none 0 0]
    have hbvb : Below (w1).heap.size (w1) ((w1).alloc (.cells #[.pointer none, .slice none 0 0] 67)) := (Below.refl _ _).alloc (Nat.le_refl _) _
    generalize (w1).alloc (.cells #[.pointer none, .slice none 0 0] 67) = vb at *
    have IB0 := IsB.new KB
    have HTb := HT.out.on hbvb
    with_reducible refine (iDecimal_any z _ hzI HTb).mono ?_
    rintro e w2 ⟨rfl, hb2⟩
    have IB2 := IB0.on hb2
    have HB2 := Lib.hid (below_app hbvb hb2 hbvb.size)
    obtain ⟨DZ, hDZ⟩ : ∃ S, decS z = S := ⟨_, rfl⟩
    have zDZ : DZ.size ≤ 21 := hDZ ▸ decS_size hzI
    rw [hDZ]
    have HDZ := Lib.hid hDZ
    have hz2 := HB2.out.size
    have y1 : ¬ 9223372036854775807 < 6 + DZ.size := by omega
    have y2 : ¬ 9223372036854775807 < 6 + DZ.size + 1 := by omega
    clear IB0 HTb hb2 KB hbvb hDZ hs hbv
    go_wp2_with fail
    with_reducible refine (writeS_any w1.heap.size w1.heap.size _ _ _ IB2 (by rw [Lib.strCells_length, ByteArray.size_append, ByteArray.size_append, show (⟨#[]⟩ : ByteArray).size = 0 from rfl, show (⟨#[115, 116, 111, 114, 101, 32]⟩ : ByteArray).size = 6 from rfl, show (⟨#[10]⟩ : ByteArray).size = 1 from rfl]; omega) hz2).mono ?_
    rintro e w3 ⟨rfl, hB3, hb3, _⟩
    have HB3 := Lib.hid (HB2.out.trans hb3)
    have IB3 : Hid (IsB w1.heap.size w1.heap.size (Lib.strCells (stP z ts 0)) w3) := by
      refine .inr ?_
      rw [strCells_app] at hB3
      have e9 : stP z ts 0 = ⟨#[]⟩ ++ (⟨#[115, 116, 111, 114, 101, 32]⟩ ++ DZ ++ ⟨#[10]⟩) := by rw [empty_app, stP, HDZ.out]
      rw [e9]; exact hB3
    have K3 : Blk w3 w.heap.size 24 #[.int .i64 z, .slice A m cb] := (HB3.out.block _ ze).trans K0
    have hz3 := HB3.out.size
    clear IB2 hB3 hb3 HB2 K0
    have e0 := K3.cell 0
    have e1 := K3.cell 1
    simp only [List.getElem?_toArray, List.getElem?_cons_succ, List.getElem?_cons_zero] at e0 e1
    have ze3 := K3.lt
    go_wp2_with fail
    clear e0 e1 ze3 y1 y2
    have h00 : (stP z ts 0).size ≤ 100 := by
      rw [stP, HDZ.out, ByteArray.size_append, ByteArray.size_append]
      have h1 : (⟨#[115, 116, 111, 114, 101, 32]⟩ : ByteArray).size = 6 := rfl
      have h2 : (⟨#[10]⟩ : ByteArray).size = 1 := rfl
      omega
    go_loopw [18] (fun i wr => ∃ (k : Nat) (S : ByteArray), k ≤ m ∧ i = .int .i64 k ∧ Hid (stP z ts k = S) ∧ S.size ≤ 100 + k * 2000000 ∧ Below w1.heap.size w1 wr ∧ IsB w1.heap.size w1.heap.size (Lib.strCells S) wr) (fun i _ => m - (intOf i).toNat)
    case atStart => exact ⟨0, stP z ts 0, by omega, rfl, rfl, by omega, HB3.out, IB3.out⟩
    case round =>
      clear IB3 HB3 hz3 h00
      obtain ⟨k, S, hk, rfl, hS, hSz, hb, hI⟩ := hrel
      have hsz := hb.size
      by_cases hlt : k < m
      · obtain ⟨b, off, s, B', m', cb', x, rfl, hbl, hx, r0, r1, hx3⟩ := (HS.out.below hb).at_ hlt
        have hsa := storeB_at H0.out hx.out
        have hok := featsOk_ok3 hsa.2
        obtain ⟨l1, l2⟩ := featsOk_len9 hsa.2
        have hm'l := hx3.len
        rw [hm'l] at l1 l2
        have hss : s.size ≤ 1048576 := (totT_mem hx.out HM.out).1
        have hST := Lib.hid (stP_step (z := z) hx.out)
        have i1 : (k : Int) < (m : Int) := by omega
        have i2 : (0 : Int) ≤ (k : Int) := by omega
        have HX3 := Lib.hid hx3
        have hblw : b < wr.heap.size := by omega
        clear hx3 hsa
        go_wp2_with fail
        have KT := Blk.new (wr) 42 #[.string s, .slice B' m' cb']
        have hbu : Below (wr).heap.size (wr) ((wr).alloc (.cells #[.string s, .slice B' m' cb'] 42)) := (Below.refl _ _).alloc (Nat.le_refl _) _
        generalize (wr).alloc (.cells #[.string s, .slice B' m' cb'] 42) = u at *
        have hBu : w1.heap.size ≤ u.heap.size := Nat.le_trans hsz hbu.size
        have HXu := Lib.hid ((HX3.out.more hsz).on hbu)
        have IBu := Lib.hid (hI.on hbu)
        have HBu := Lib.hid (below_app hb hbu hsz)
        have HTu := Lib.hid (HT.out.on (HBu.out))
        have hbne : wr.heap.size ≠ w1.heap.size := by have := hI.lt; omega
        have t0 := KT.cell 0
        have t1 := KT.cell 1
        simp only [List.getElem?_toArray, List.getElem?_cons_succ, List.getElem?_cons_zero] at t0 t1
        have zt := KT.lt
        have KTh := Lib.hid KT
        clear r0 r1 HX3 hI hb hbu KT
        have S0 : (∀ b o, b < w1.heap.size → u.drew.cell? ⟨b, o, none⟩ = u.cell? ⟨b, o, none⟩) ∧ Below w1.heap.size u u.drew ∧ u.drew.cell? ⟨wr.heap.size, 0, none⟩ = some (.string s) ∧ u.drew.cell? ⟨wr.heap.size, 1, none⟩ = some (.slice B' m' cb') := ⟨sk2B (Below.refl _ _).drew, (Below.refl _ _).drew, t0, t1⟩
        have zJ : (ftT x).size ≤ 72 * 67 := Nat.le_trans (ftT_size hok) (Nat.mul_le_mul_right _ (by omega))
        obtain ⟨J, hJ⟩ : ∃ J, ftT x = J := ⟨_, rfl⟩
        have HJ : Hid (jnB (x.map ftS) ⟨#[32]⟩ = J) := hJ
        rw [hJ] at zJ
        have HTM : Hid (tmT (s, x) = ⟨#[116, 101, 109, 112, 108, 97, 116, 101, 32]⟩ ++ s ++ ⟨#[32]⟩ ++ J ++ ⟨#[10]⟩) := by show _ = _; unfold tmT; rw [hJ]
        have HXL := Lib.hid hm'l
        have HOK := Lib.hid hok
        have y1 : ¬ 9223372036854775807 < 9 + s.size := by omega
        have y2 : ¬ 9223372036854775807 < 9 + s.size + 1 := by omega
        have y3 : ¬ 9223372036854775807 < 9 + s.size + 1 + J.size := by omega
        have y4 : ¬ 9223372036854775807 < 9 + s.size + 1 + J.size + 1 := by omega
        have HW8 : (⟨#[116, 101, 109, 112, 108, 97, 116, 101, 32]⟩ ++ s ++ ⟨#[32]⟩ ++ J ++ ⟨#[10]⟩ : ByteArray).size ≤ 1060000 := by
          rw [ByteArray.size_append, ByteArray.size_append, ByteArray.size_append, ByteArray.size_append, show (⟨#[116, 101, 109, 112, 108, 97, 116, 101, 32]⟩ : ByteArray).size = 9 from rfl, show (⟨#[32]⟩ : ByteArray).size = 1 from rfl, show (⟨#[10]⟩ : ByteArray).size = 1 from rfl]; omega
        have HWB := Lib.hid HW8
        have HST2 : Hid (stP z ts (k + 1) = S ++ (⟨#[116, 101, 109, 112, 108, 97, 116, 101, 32]⟩ ++ s ++ ⟨#[32]⟩ ++ J ++ ⟨#[10]⟩)) := by show _ = _; rw [hST.out, hS.out, HTM.out]
        clear hok hJ hm'l HW8 hST HTM
        have hBud : w1.heap.size ≤ u.drew.heap.size := hBu
        go_region_held3 (fun w' => (∀ b o, b < w1.heap.size → w'.cell? ⟨b, o, none⟩ = u.cell? ⟨b, o, none⟩) ∧ Below w1.heap.size u w' ∧ w'.cell? ⟨wr.heap.size, 0, none⟩ = some (.string s) ∧ w'.cell? ⟨wr.heap.size, 1, none⟩ = some (.slice B' m' cb')) (first | exact S0 | (go_split_ands; first | exact ⟨‹_›, ‹_›, ‹_›, ‹_›⟩ | exact S5 | exact S4 | exact S3)) (first | (go_at_call 36; with_reducible refine (featWords_any _ _ _ x _ (HXu.out.on ((Below.refl _ _).drew)) (by omega) HOK.out (HTu.out.on ((Below.refl _ _).drew))).mono ?_; rintro e w3' ⟨A3, c3', rfl, ho3, hbw3⟩; obtain ⟨g3, rfl, hg30, hg31⟩ := own_at ho3 (by omega); have K3' := (KTh.out.drew).on hbw3; have I3' := IsB.on (IsB.on IBu.out ((Below.refl _ _).drew)) hbw3; have h93 : Below w1.heap.size u w3' := ((Below.refl _ _).drew).trans (hbw3.mono hBud); have S3 : (∀ b o, b < w1.heap.size → w3'.cell? ⟨b, o, none⟩ = u.cell? ⟨b, o, none⟩) ∧ Below w1.heap.size u w3' ∧ w3'.cell? ⟨wr.heap.size, 0, none⟩ = some (.string s) ∧ w3'.cell? ⟨wr.heap.size, 1, none⟩ = some (.slice B' m' cb') := ⟨sk2B h93, h93, (Blk.at2 K3').1.cell, (Blk.at2 K3').2.cell⟩) | (go_at_call 35; with_reducible refine (joinS_any (L := 66) (x.map ftS) ⟨#[32]⟩ _ ho3 (by rw [List.length_map]; exact HXL.out) (fun q hq => by obtain ⟨y, hy, rfl⟩ := List.mem_map.1 hq; exact ftS_size (HOK.out y hy)) (by rw [show (⟨#[32]⟩ : ByteArray).size = 1 from rfl]; omega) (by omega)).mono ?_; rintro e w4' ⟨rfl, hbw4⟩; rw [HJ.out]; have K4' := K3'.on hbw4; have I4' := IsB.on I3' hbw4; have h94 : Below w1.heap.size u w4' := h93.trans (hbw4.mono (Nat.le_trans hBu h93.size)); have S4 : (∀ b o, b < w1.heap.size → w4'.cell? ⟨b, o, none⟩ = u.cell? ⟨b, o, none⟩) ∧ Below w1.heap.size u w4' ∧ w4'.cell? ⟨wr.heap.size, 0, none⟩ = some (.string s) ∧ w4'.cell? ⟨wr.heap.size, 1, none⟩ = some (.slice B' m' cb') := ⟨sk2B h94, h94, (Blk.at2 K4').1.cell, (Blk.at2 K4').2.cell⟩) | (go_at_call 34; with_reducible refine (writeS_any w1.heap.size w1.heap.size _ _ _ I4' (by rw [Lib.strCells_length]; have := HWB.out; omega) (Nat.le_trans hBu h94.size)).mono ?_; rintro e w5' ⟨rfl, hB5, hbw5, hk5⟩; have K5' := hk5 _ _ _ K4' hbne (by decide); have h95 : Below w1.heap.size u w5' := h94.trans hbw5; have S5 : (∀ b o, b < w1.heap.size → w5'.cell? ⟨b, o, none⟩ = u.cell? ⟨b, o, none⟩) ∧ Below w1.heap.size u w5' ∧ w5'.cell? ⟨wr.heap.size, 0, none⟩ = some (.string s) ∧ w5'.cell? ⟨wr.heap.size, 1, none⟩ = some (.slice B' m' cb') := ⟨sk2B h95, h95, (Blk.at2 K5').1.cell, (Blk.at2 K5').2.cell⟩))
        all_goals
          have HB5 := Lib.hid (HBu.out.trans h95)
          have HI5 : Hid (IsB w1.heap.size w1.heap.size (Lib.strCells (stP z ts (k + 1))) w5') := by
            refine .inr ?_
            rw [HST2.out, ← strCells_app]; exact hB5
          have HSZ : (stP z ts (k + 1)).size ≤ 100 + (k + 1) * 2000000 := by rw [HST2.out, ByteArray.size_append]; have := HWB.out; omega
          clear hB5 hbw5 hk5 K5' h95 S5
          go_wp2_with fail
          exact ⟨⟨k + 1, _, by omega, by go_num, rfl, HSZ, HB5.out, HI5.out⟩, by simp [intOf]; omega⟩
      · have hkm : k = m := by omega
        subst hkm
        have hBw : w1.heap.size ≤ wr.heap.size := hsz
        have hstr := Tryz.Builder_String_any w1.heap.size w1.heap.size S.data.toList wr hI hBw
        have HB := Lib.hid hb
        have hSS : (⟨S.data.toList.toArray⟩ : ByteArray) = S := rfl
        rw [hSS] at hstr
        clear hI hb hSS
        go_wp2_with fail
        with_reducible refine hstr.mono ?_
        rintro e w6 ⟨rfl, hb6⟩
        have HB6 := Lib.hid (below_app HBV.out (HB.out.trans hb6 |>.mono (Nat.le_refl _)) HBV.out.size)
        go_wp2
        go_ret
        rw [F.out, hS.out]
        exact ⟨rfl, HB6.out⟩
end Go.Proofs.YtnjifhlabbejoaaGreatDoor
