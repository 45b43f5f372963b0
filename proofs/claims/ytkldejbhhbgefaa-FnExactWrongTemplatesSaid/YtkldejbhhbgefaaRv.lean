/- RemoveTemplate: the program's and the reference's. -/
import Derived.Test.YtkldejbhhbgefaaDe
import Derived.Test.YtkldejbhhbgefaaOl
import Derived.Test.YtkldejbhhbgefaaAt
namespace Go.Proofs.Ytkldejbhhbgefaa
open Go.ChangeShapes Go.WideShapes Go.ChangeAt Go.RowKit
set_option linter.unusedVariables false
set_option linter.unusedSimpArgs false
/-- Without one of the templates. -/
theorem TS.erase {w w' : World} {base tT tF n c i : Nat} {A : Option Addr} {hs : List HT} {xs : List TV} (h : TS w base tT tF A n c hs xs) (hne : tT ≠ tF) (hi : i < n)
    (hw : w'.ownsRow base tT 2 (.slice A (n - 1) c) (n - 1) ((hs.eraseIdx i).flatMap cT)) (hg : w.grownBy w' (Value.slice A n c).ownBlock) : TS w' base tT tF A (n - 1) c (hs.eraseIdx i) (xs.eraseIdx i) := by
  have hk : ∀ {b9 s9 n9 c9 : Nat} {A9 : Option Addr} {vs : List Value}, w.ownsRow b9 tF s9 (.slice A9 n9 c9) n9 vs → w'.ownsRow b9 tF s9 (.slice A9 n9 c9) n9 vs := fun {b9 s9 n9 c9 A9 vs} h9 => h9.kept hg (by
    cases A with
    | none => cases A9 <;> simp [Value.ownBlock]
    | some a =>
      cases A9 with
      | none => exact .inl rfl
      | some a9 => exact .inr (own_ty' h.o h9 hne))
  have hd := h.d
  refine ⟨hw, by rw [List.length_eraseIdx, if_pos (by rw [h.l]; exact hi), h.l], by rw [List.length_eraseIdx, if_pos (by rw [h.x]; exact hi), h.x], fun k q x h1 h2 => ?_, fun a b p q c1 c2 hab ha hb h3 h4 => ?_⟩
  · rw [List.getElem?_eraseIdx] at h1 h2
    by_cases hk9 : k < i
    · rw [if_pos hk9] at h1 h2
      obtain ⟨g1, g2, g3⟩ := h.u k q x h1 h2
      exact ⟨g1, g2, hk g3⟩
    · rw [if_neg hk9] at h1 h2
      obtain ⟨g1, g2, g3⟩ := h.u (k + 1) q x h1 h2
      exact ⟨g1, g2, hk g3⟩
  · rw [List.getElem?_map, Option.map_eq_some_iff] at ha hb
    obtain ⟨p9, ha, rfl⟩ := ha
    obtain ⟨q9, hb, rfl⟩ := hb
    rw [List.getElem?_eraseIdx] at ha hb
    have hA : ∃ a', hs[a']? = some p9 ∧ ((a < i ∧ a' = a) ∨ (¬ a < i ∧ a' = a + 1)) := by
      by_cases h9 : a < i
      · rw [if_pos h9] at ha; exact ⟨a, ha, .inl ⟨h9, rfl⟩⟩
      · rw [if_neg h9] at ha; exact ⟨a + 1, ha, .inr ⟨h9, rfl⟩⟩
    have hB : ∃ b', hs[b']? = some q9 ∧ ((b < i ∧ b' = b) ∨ (¬ b < i ∧ b' = b + 1)) := by
      by_cases h9 : b < i
      · rw [if_pos h9] at hb; exact ⟨b, hb, .inl ⟨h9, rfl⟩⟩
      · rw [if_neg h9] at hb; exact ⟨b + 1, hb, .inr ⟨h9, rfl⟩⟩
    obtain ⟨a', ha', hA⟩ := hA
    obtain ⟨b', hb', hB⟩ := hB
    exact hd.ne (i := a') (j := b') (by omega) ha' hb' h3 h4
theorem lessL_at {ts : List TV} {i : Nat} (hi : i < ts.length) : ∀ k, k ≤ ts.length → lessL ts (i : Int) k = (ts.take k).eraseIdx i
  | 0, _ => by simp [lessL]
  | k + 1, hk => by
    have hx : ts[k]? = some ts[k] := List.getElem?_eq_getElem (by omega)
    by_cases h : k = i
    · subst h
      rw [lessL_eq rfl, lessL_at hi k (by omega), take_succ_of hx, List.eraseIdx_of_length_le (by simp; omega)]
      rw [List.eraseIdx_append_of_length_le (by simp; omega)]
      simp [List.length_take, Nat.min_eq_left (show k ≤ ts.length by omega)]
    · rw [lessL_ne (by omega) hx, lessL_at hi k (by omega), take_succ_of hx]
      by_cases h2 : k < i
      · rw [List.eraseIdx_of_length_le (by simp; omega), List.eraseIdx_of_length_le (by simp; omega)]
      · rw [List.eraseIdx_append_of_lt_length (by simp; omega)]
theorem tot_erase (ts : List TV) (i : Nat) : totT (ts.eraseIdx i) ≤ totT ts := by
  unfold totT
  have h1 : (ts.eraseIdx i).length ≤ ts.length := List.length_eraseIdx_le _ _
  have h2 : ((ts.eraseIdx i).map szT).sum ≤ (ts.map szT).sum := by
    induction ts generalizing i with
    | nil => simp
    | cons a l ih =>
      cases i with
      | zero => simp
      | succ i => simp only [List.eraseIdx_cons_succ, List.map_cons, List.sum_cons]; have := ih i (List.length_eraseIdx_le _ _); omega
  omega
def rmE (z : Int) (ts : List TV) (i : Int) : Int := if storeB z ts = true then (if inB 0 ((ts.length : Int) - 1) i = true then 0 else 2) else 1
def rmZ (z : Int) (ts : List TV) (i : Int) : Int := if rmE z ts i = 0 then z else 0
def rmL (z : Int) (ts : List TV) (i : Int) : List TV := if rmE z ts i = 0 then ts.eraseIdx i.toNat else []
theorem rm_bad {z : Int} {ts : List TV} {i : Int} (h : storeB z ts = false) : rmE z ts i = 1 ∧ rmZ z ts i = 0 ∧ rmL z ts i = [] := by
  have h1 : rmE z ts i = 1 := by unfold rmE; rw [h]; rfl
  unfold rmZ rmL; rw [h1]; exact ⟨rfl, rfl, rfl⟩
theorem rm_out {z : Int} {ts : List TV} {i : Int} (h : storeB z ts = true) (hn : inB 0 ((ts.length : Int) - 1) i = false) : rmE z ts i = 2 ∧ rmZ z ts i = 0 ∧ rmL z ts i = [] := by
  have h1 : rmE z ts i = 2 := by unfold rmE; rw [h, hn]; rfl
  unfold rmZ rmL; rw [h1]; exact ⟨rfl, rfl, rfl⟩
theorem rm_ok {z : Int} {ts : List TV} {i : Int} (h : storeB z ts = true) (hn : inB 0 ((ts.length : Int) - 1) i = true) : rmE z ts i = 0 ∧ rmZ z ts i = z ∧ rmL z ts i = ts.eraseIdx i.toNat := by
  have h1 : rmE z ts i = 0 := by unfold rmE; rw [h, hn]; rfl
  unfold rmZ rmL; rw [h1]; exact ⟨rfl, rfl, rfl⟩
theorem rmL_tot (z : Int) (ts : List TV) (i : Int) (h : totT ts ≤ 1048576) : totT (rmL z ts i) ≤ 1048576 := by
  unfold rmL
  split
  · exact Nat.le_trans (tot_erase _ _) h
  · decide
set_option maxRecDepth 100000 in
set_option maxHeartbeats 4000000 in
theorem without_any (z : Int) (A : Option Addr) (m cb i : Nat) (ts : List TV) (w : World) (hr : TL w w.heap.size A m cb ts) (hm : totT ts ≤ 1048576) (V0 : storeB z ts = true) (hi : i < m) :
    Calls Try.prog 42 #[.agg #[.int .i64 z, .slice A m cb], .int .i64 i] w fun e w' => ∃ (A' : Option Addr) (c' : Nat) (hs : List HT), e = .returned (.agg #[.int .i64 z, .slice A' (m - 1) c']) ∧ TS w' w.heap.size 67 79 A' (m - 1) c' hs (ts.eraseIdx i) ∧ Below w.heap.size w w' := by
  have hl := Lib.hid hr.len
  have hm40 : m ≤ 40 := by have h := storeB_len V0; rw [hl.out] at h; exact h
  have HV := Lib.hid V0
  have HM := Lib.hid hm
  clear hm V0
  go_enter Try.func42, Try.ntmps42
  go_wp2_with fail
  have P0 : Blk ((w.alloc (.cells #[.int .i64 z, .slice A m cb] 31)).alloc (.cells #[.int .i64 0, .slice none 0 0] 31)) (w.heap.size) 31 #[.int .i64 z, .slice A m cb] := by have hk := (Blk.new w 31 #[.int .i64 z, .slice A m cb]).alloc (.cells #[.int .i64 0, .slice none 0 0] 31); simpa using hk
  have R0 : Blk ((w.alloc (.cells #[.int .i64 z, .slice A m cb] 31)).alloc (.cells #[.int .i64 0, .slice none 0 0] 31)) (w.heap.size + 1) 31 #[.int .i64 0, .slice none 0 0] := by have hk := Blk.new (w.alloc (.cells #[.int .i64 z, .slice A m cb] 31)) 31 #[.int .i64 0, .slice none 0 0]; simpa using hk
  have hbv : Below w.heap.size w ((w.alloc (.cells #[.int .i64 z, .slice A m cb] 31)).alloc (.cells #[.int .i64 0, .slice none 0 0] 31)) := (by repeat (first | exact Below.refl _ _ | assumption | refine Below.drew ?_ | refine below_drewN ?_ _ | refine Below.alloc ?_ (by first | omega | (simp <;> omega)) _ | refine Below.setCell ?_ (by first | omega | (simp <;> omega)) _))
  replace hr := hr.on hbv
  generalize ((w.alloc (.cells #[.int .i64 z, .slice A m cb] 31)).alloc (.cells #[.int .i64 0, .slice none 0 0] 31)) = v at *
  have zrv := R0.lt
  with_reducible refine (copyStore_any z _ _ _ ts _ hr HM.out HV.out).mono ?_
  rintro e w1 ⟨A1, q1, hs1, rfl, hT1, hb1⟩
  replace R0 := R0.on hb1
  have hzv := hbv.size
  replace hbv := below_on hb1 hbv
  have HT1 := Lib.hid hT1
  have z1 := hb1.size
  obtain ⟨g, rfl, hg0, hg1⟩ := own_at hT1.o (by omega)
  clear hr hT1 hb1 P0
  go_wp2_with fail
  have O1 := Blk.new (w1) 31 #[.int .i64 z, .slice (some ⟨g, 0, none⟩) m q1]
  have hbw2 : Below (w1).heap.size (w1) ((w1).alloc (.cells #[.int .i64 z, .slice (some ⟨g, 0, none⟩) m q1] 31)) := (Below.refl _ _).alloc (Nat.le_refl _) _
  replace R0 := R0.on hbw2
  generalize (w1).alloc (.cells #[.int .i64 z, .slice (some ⟨g, 0, none⟩) m q1] 31) = w2 at *
  have HT2 := Lib.hid (HT1.out.on hbw2)
  replace hbv := below_on hbw2 hbv
  have zo := O1.lt
  have zr := R0.lt
  have o0 := O1.cell 0
  have o1 := O1.cell 1
  simp only [List.getElem?_toArray, List.getElem?_cons_succ, List.getElem?_cons_zero] at o0 o1
  have f0 := O1.frozen 0
  have f1 := O1.frozen 1
  have o9 : IntKind.i64.wrap ((i : Int) + 1) = (i : Int) + 1 := IntWalk.i64_in _ (by omega)
  go_wp2_with fail
  with_reducible refine (deleteT_any g m q1 _ i hs1 _ HT2.out.o HT2.out.l hi (by omega)).mono ?_
  rintro e w3 ⟨rfl, hw3, hg3⟩
  have hne : w1.heap.size ≠ g := fun h9 => own_blk_ne HT2.out.o O1 (by decide) (by simp [Value.ownBlock, h9])
  have hT3 := Lib.hid (TS.erase HT2.out (by decide) hi hw3 hg3)
  have O3 := O1.grown HT2.out.o hg3 (by decide)
  have R3 := R0.grown HT2.out.o hg3 (by decide)
  have hb3 := Lib.hid (hbv.grown hg3 (by have := hbv.size; omega) (fun q hq => by cases hq; omega))
  have z3 := hg3.size
  clear o9 o0 o1 f0 f1 hw3 hg3 HT2 HT1
  have o0 := O3.cell 0
  have o1 := O3.cell 1
  simp only [List.getElem?_toArray, List.getElem?_cons_succ, List.getElem?_cons_zero] at o0 o1
  have f0 := O3.frozen 0
  have f1 := O3.frozen 1
  have r0 := R3.cell 0
  have r1 := R3.cell 1
  simp only [List.getElem?_toArray, List.getElem?_cons_succ, List.getElem?_cons_zero] at r0 r1
  have k0 := R3.frozen 0
  have k1 := R3.frozen 1
  have zo3 := O3.lt
  have zr3 := R3.lt
  have n1 : w1.heap.size ≠ w.heap.size + 1 := by omega
  have n2 : w.heap.size + 1 ≠ w1.heap.size := by omega
  go_wp2
  refine bodyPost_ret (v := .agg #[.int .i64 z, .slice (some ⟨g, 0, none⟩) (m - 1) q1]) (by simp [results, Try.results42, go_sem, r0, r1, n1, n2]) rfl ⟨some ⟨g, 0, none⟩, q1, hs1.eraseIdx i, rfl, ?_, ((hb3.out.setCell (by simp only; omega) _).setCell (by simp only; omega) _).setCell (by simp only; omega) _⟩
  have hT4 := hT3.out.off O3 (by decide) (by decide) 1 (.slice (some ⟨g, 0, none⟩) (m - 1) q1)
  have R4 := R3.far (p := ⟨w1.heap.size, 1, none⟩) (by simp only; omega) (.slice (some ⟨g, 0, none⟩) (m - 1) q1)
  exact ((hT4.off R4 (by decide) (by decide) 0 _).off (R4.set_ 0 _) (by decide) (by decide) 1 _).mono (by omega)
theorem without_anyI (z : Int) (A : Option Addr) (m cb : Nat) (i : Int) (ts : List TV) (w : World) (hr : TL w w.heap.size A m cb ts) (hm : totT ts ≤ 1048576) (V0 : storeB z ts = true) (h0 : 0 ≤ i) (hi : i.toNat < m) :
    Calls Try.prog 42 #[.agg #[.int .i64 z, .slice A m cb], .int .i64 i] w fun e w' => ∃ (A' : Option Addr) (c' : Nat) (hs : List HT), e = .returned (.agg #[.int .i64 z, .slice A' (m - 1) c']) ∧ TS w' w.heap.size 67 79 A' (m - 1) c' hs (ts.eraseIdx i.toNat) ∧ Below w.heap.size w w' := by
  obtain ⟨k, rfl⟩ := Int.eq_ofNat_of_zero_le h0
  exact without_any z A m cb k ts w hr hm V0 hi
end Go.Proofs.Ytkldejbhhbgefaa
