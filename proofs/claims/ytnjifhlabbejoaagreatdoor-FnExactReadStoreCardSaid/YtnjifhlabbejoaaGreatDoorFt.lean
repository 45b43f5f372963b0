/- Texts of features: joins. -/
import Derived.Test.YtnjifhlabbejoaaGreatDoorDz
import Derived.Test.YtnjifhlabbejoaaGreatDoorFlStr
import Derived.Lib.ItoaLen
import Derived.Lib.Join
import Derived.BigRegion
import Derived.Deep.RegionHeld3
namespace Go.Proofs.YtnjifhlabbejoaaGreatDoor
open Go.ChangeShapes Go.WideShapes Go.ChangeAt Go.RowKit
set_option linter.unusedVariables false
set_option linter.unusedSimpArgs false
theorem Cell1s.newF (w : World) (t : TypeId) (s : ByteArray) : ∀ j u, ([s].flatMap cs1)[j]? = some u → (w.alloc (.cells #[.string s] t)).cell? ⟨w.heap.size, j, none⟩ = some u := by
  intro j u hu
  have hk := (Blk.new w t #[.string s]).cell j
  rw [hk]
  match j, hu with
  | 0, hu => simpa [cs1] using hu
  | j + 1, hu => simp [cs1] at hu
def jnB (ss : List ByteArray) (sep : ByteArray) : ByteArray := ⟨(Lib.join (ss.map (·.data.toList)) sep.data.toList).toArray⟩
theorem joinTail_snoc (sep : List UInt8) (r : List (List UInt8)) (s : List UInt8) : Lib.joinTail sep (r ++ [s]) = Lib.joinTail sep r ++ sep ++ s := by
  simp [Lib.joinTail, List.append_assoc]
theorem jnB_one (s sep : ByteArray) : jnB [s] sep = s := by
  unfold jnB
  rw [List.map_cons, List.map_nil, Lib.join_one]
theorem jnB_snoc {ss : List ByteArray} {s sep : ByteArray} (h : ss ≠ []) : jnB (ss ++ [s]) sep = jnB ss sep ++ sep ++ s := by
  match ss, h with
  | a :: r, _ =>
    unfold jnB
    rw [List.cons_append, List.map_cons, List.map_append, List.map_cons, List.map_nil, List.map_cons, Lib.join_cons, Lib.join_cons, joinTail_snoc]
    apply ByteArray.ext
    simp [List.append_assoc]
theorem lens_le {L : Nat} : ∀ (r : List (List UInt8)), (∀ x ∈ r, x.length ≤ L) → Lib.lens r ≤ r.length * L
  | [], _ => by simp [Lib.lens]
  | x :: r, h => by
    have h1 := lens_le r (fun y hy => h y (List.mem_cons_of_mem _ hy))
    have h2 := h x List.mem_cons_self
    simp only [Lib.lens, List.map_cons, List.sum_cons, List.length_cons, Nat.succ_mul] at h1 ⊢
    omega
theorem jnB_size {L : Nat} {ss : List ByteArray} {sep : ByteArray} (h : ∀ s ∈ ss, s.size ≤ L) : (Lib.join (ss.map (·.data.toList)) sep.data.toList).length ≤ ss.length * (L + sep.size) := by
  match ss, h with
  | [], _ => simp [Lib.join_nil]
  | a :: r, h =>
    rw [List.map_cons, Lib.join_cons, List.length_append, Lib.joinTail_length]
    have h1 : a.data.toList.length ≤ L := by rw [Array.length_toList]; exact h a List.mem_cons_self
    have h2 := lens_le (L := L) (r.map (·.data.toList)) (by
      intro x hx
      obtain ⟨y, hy, rfl⟩ := List.mem_map.1 hx
      rw [Array.length_toList]
      exact h y (List.mem_cons_of_mem _ hy))
    rw [List.length_map] at h2
    have h3 : sep.data.toList.length = sep.size := by rw [Array.length_toList]; rfl
    rw [h3, List.length_map, List.length_cons, Nat.succ_mul, Nat.mul_add, Nat.mul_comm sep.size]
    omega
theorem jnB_sz {L : Nat} {ss : List ByteArray} {sep : ByteArray} (h : ∀ s ∈ ss, s.size ≤ L) : (jnB ss sep).size ≤ ss.length * (L + sep.size) := by
  have := jnB_size (sep := sep) h
  show (List.toArray _).size ≤ _
  rw [List.size_toArray]; exact this
theorem decS_size {n : Int} (h : I64 n) : (decS n).size ≤ 21 := by
  show (List.toArray _).size ≤ _
  rw [List.size_toArray]
  exact Lib.itoa_length_le n (by have := h.1; omega) (by have := h.2; omega)
def ftS (p : T3) : ByteArray := jnB [decS p.1, decS p.2.1, decS p.2.2] ⟨#[44]⟩
def ftT (xs : List T3) : ByteArray := jnB (xs.map ftS) ⟨#[32]⟩
theorem ftS_eq (p : T3) : ftS p = decS p.1 ++ ⟨#[44]⟩ ++ decS p.2.1 ++ ⟨#[44]⟩ ++ decS p.2.2 := by
  unfold ftS
  rw [show [decS p.1, decS p.2.1, decS p.2.2] = [decS p.1, decS p.2.1] ++ [decS p.2.2] from rfl, jnB_snoc (by simp), show [decS p.1, decS p.2.1] = [decS p.1] ++ [decS p.2.1] from rfl, jnB_snoc (by simp), jnB_one]
theorem ftS_size {p : T3} (h : ok3 p) : (ftS p).size ≤ 66 := by
  unfold ftS
  refine Nat.le_trans (jnB_sz (L := 21) ?_) (by show 3 * (21 + 1) ≤ 66; decide)
  intro s hs
  simp only [List.mem_cons, List.mem_nil_iff, or_false] at hs
  rcases hs with rfl | rfl | rfl
  · exact decS_size h.1
  · exact decS_size h.2.1
  · exact decS_size h.2.2
theorem ftT_one {xs : List T3} {p : T3} (h : xs[0]? = some p) : ftT (xs.take 1) = ftS p := by
  unfold ftT
  rw [show (1 : Nat) = 0 + 1 from rfl, take_succ_of h, List.take_zero, List.nil_append, List.map_cons, List.map_nil, jnB_one]
theorem ftT_step {xs : List T3} {p : T3} {k : Nat} (hk : 0 < k) (h : xs[k]? = some p) : ftT (xs.take (k + 1)) = ftT (xs.take k) ++ ⟨#[32]⟩ ++ ftS p := by
  unfold ftT
  have hkl : k < xs.length := (List.getElem?_eq_some_iff.1 h).1
  rw [take_succ_of h, List.map_append, List.map_cons, List.map_nil, jnB_snoc]
  intro e
  have h2 := congrArg List.length e
  rw [List.length_map, List.length_take] at h2
  simp only [List.length_nil] at h2; omega
theorem joinS_any {base g c n L : Nat} (ss : List ByteArray) (sep : ByteArray) (w : World) (ho : w.ownsRow base 9 1 (.slice (some ⟨g, 0, none⟩) n c) n (ss.flatMap cs1)) (hl : ss.length = n) (hs : ∀ s ∈ ss, s.size ≤ L) (hL : n * (L + sep.size) ≤ 140737488355328) (hn : n ≤ 1048576) :
    Calls Tryz.prog 35 #[.slice (some ⟨g, 0, none⟩) n c, .string sep] w fun e w' => e = .returned (.string (jnB ss sep)) ∧ Below w.heap.size w w' := by
  have HRS := RdL.of_own (f := cs1) (s := 1) hl ho
  have hcap := HRS.cap
  have hg := (ho.lt g rfl).2
  subst hl
  exact Tryz.strings_Join g 0 c ss sep w (fun j x hj => by
    obtain ⟨b, off, y, he, hbl, hy, q0⟩ := HRS.atS (List.getElem?_eq_some_iff.1 hj).1
    cases he
    rw [hy.out] at hj; cases hj
    exact q0) hg (by omega) hcap (Nat.le_trans (jnB_size hs) hL)
set_option maxHeartbeats 4000000 in
theorem commasOf_any (A : Option Addr) (n c : Nat) (xs : List Int) (w : World) (hr : RdL c1 1 w w.heap.size A n c xs) (h0 : 0 < n) (hn : n ≤ 1000) (hx : ∀ x ∈ xs, I64 x) (ht : TabD w) :
    Calls Tryz.prog 59 #[.slice A n c] w fun e w' => e = .returned (.string (jnB (xs.map decS) ⟨#[44]⟩)) ∧ Below w.heap.size w w' := by
  obtain ⟨i0, hi, hz0, hz1, hz2⟩ := info_parts (show (Tryz.prog.info? 9).map (fun i => (i.zero, i.size, i.bytes)) = some (some (.string ⟨#[]⟩), 1, 16) by kernel_rfl)
  have HL := Lib.hid hr.len
  have HR := Lib.hid hr
  have HT := Lib.hid ht
  clear hr ht
  go_enter Tryz.func59, Tryz.ntmps59
  go_wp2_with fail
  go_loopw [3, 8] (fun q i wr => ∃ (k c' : Nat) (A' : Option Addr), k ≤ n ∧ i = .int .i64 k ∧ q = .slice A' k c' ∧ Below w.heap.size w wr ∧ Hid (wr.ownsRow w.heap.size 9 1 (.slice A' k c') k (((xs.take k).map decS).flatMap cs1))) (fun _ i _ => n - (intOf i).toNat)
  case atStart => exact ⟨0, 0, none, by omega, rfl, rfl, Below.refl _ _, World.ownsRow_nil _ _ _ _⟩
  case round =>
    obtain ⟨k, c', A', hk, rfl, rfl, hb, HO⟩ := hrel
    have hsz := hb.size
    by_cases hlt : k < n
    · obtain ⟨b, off, x, rfl, hbl, hxx, q0⟩ := (HR.out.on hb).at1 hlt
      have hxi := hx _ (List.mem_of_getElem? hxx.out)
      have HT2 := Lib.hid (HT.out.on hb)
      have HX := Lib.hid (take_succ_of hxx.out)
      have i1 : (k : Int) < (n : Int) := by omega
      have i2 : (0 : Int) ≤ (k : Int) := by omega
      go_wp2_with fail
      with_reducible refine (iDecimal_any x _ hxi HT2.out).mono ?_
      rintro e w2 ⟨rfl, hb2⟩
      have HO2 := Lib.hid (own_below HO.out hb2)
      have HB2 := Lib.hid (below_app hb hb2 hsz)
      have hz2' := HB2.out.size
      clear HO hb hb2 q0
      go_wp2_with (at_builtin; with_reducible refine app_one _ cs1_len oneS1 rfl (.tmp 12) (.tmp 15) 30 rfl w.heap.size 9 i0 _ Tryz.underlying30 hi hz0 hz1 hz2 rfl (by decide) (by decide) A' k c' _ rfl (HO2.out.alloc _) w2.heap.size 1 (decS x) rfl ?_ (by omega) ?_ ?_)
      · intro j u hu; have h8 := Cell1s.newF w2 9 (decS x) j u (by simpa using hu); simpa using h8
      · simp; omega
      · intro A3 c3 w3 hw3 hb3
        have HB3 := Lib.hid ((HB2.out.alloc hz2' _).trans hb3)
        have HO3 : Hid (w3.ownsRow w.heap.size 9 1 (.slice A3 (k + 1) c3) (k + 1) (((xs.take (k + 1)).map decS).flatMap cs1)) := by
          show World.ownsRow _ _ _ _ _ _ _
          rw [HX.out, List.map_append, List.map_cons, List.map_nil, flat_snoc, List.map_take]; exact hw3
        clear hw3 hb3
        go_wp2
        exact ⟨⟨k + 1, c3, A3, by omega, by go_num, rfl, HB3.out, HO3.out⟩, by simp [intOf]; omega⟩
    · have hkn : k = n := by omega
      subst hkn
      obtain ⟨g, rfl, hg0, hg1⟩ := own_at HO.out h0
      rw [List.take_of_length_le (by rw [HL.out]; exact Nat.le_refl _)] at HO
      have hln : (xs.map decS).length = k := by rw [List.length_map]; exact HL.out
      have HJ := Lib.hid (joinS_any (L := 21) (xs.map decS) ⟨#[44]⟩ wr HO.out hln (fun s hs => by
        obtain ⟨y, hy, rfl⟩ := List.mem_map.1 hs
        exact decS_size (hx y hy)) (by have h9 : (⟨#[44]⟩ : ByteArray).size = 1 := rfl; rw [h9]; omega) (by omega))
      have HB := Lib.hid hb
      clear hb
      go_wp2_with fail
      with_reducible refine HJ.out.mono ?_
      rintro e w4 ⟨rfl, hb4⟩
      have HB4 := Lib.hid (below_app HB.out hb4 HB.out.size)
      clear hb4 HJ
      go_wp2
      go_ret
      exact ⟨rfl, HB4.out⟩
theorem rd3_blk {w : World} {g : Nat} {t : TypeId} {x y d : Int} (K : Blk w g t #[.int .i64 x, .int .i64 y, .int .i64 d]) : RdL c1 1 w w.heap.size (some ⟨g, 0, none⟩) 3 3 [x, y, d] :=
  ⟨rfl, rfl, by decide, by unfold maxLen; omega, fun _ => ⟨g, 0, rfl, K.lt, fun j u hu => by
    rw [Nat.zero_add, K.cell j]
    simpa [c1] using hu⟩⟩
set_option maxHeartbeats 4000000 in
theorem featWords_any (A : Option Addr) (n c : Nat) (xs : List T3) (w : World) (hr : RdL c3 3 w w.heap.size A n c xs) (hn : n ≤ 1048576) (hx : ∀ x ∈ xs, ok3 x) (ht : TabD w) :
    Calls Tryz.prog 36 #[.slice A n c] w fun e w' => ∃ A' c', e = .returned (.slice A' n c') ∧ w'.ownsRow w.heap.size 9 1 (.slice A' n c') n ((xs.map ftS).flatMap cs1) ∧ Below w.heap.size w w' := by
  obtain ⟨i0, hi, hz0, hz1, hz2⟩ := info_parts (show (Tryz.prog.info? 9).map (fun i => (i.zero, i.size, i.bytes)) = some (some (.string ⟨#[]⟩), 1, 16) by kernel_rfl)
  have HL := Lib.hid hr.len
  have HR := Lib.hid hr
  have HT := Lib.hid ht
  clear hr ht
  go_enter Tryz.func36, Tryz.ntmps36
  go_wp2_with fail
  go_loopw [3, 8] (fun q i wr => ∃ (k c' : Nat) (A' : Option Addr), k ≤ n ∧ i = .int .i64 k ∧ q = .slice A' k c' ∧ Below w.heap.size w wr ∧ Hid (wr.ownsRow w.heap.size 9 1 (.slice A' k c') k (((xs.take k).map ftS).flatMap cs1))) (fun _ i _ => n - (intOf i).toNat)
  case atStart => exact ⟨0, 0, none, by omega, rfl, rfl, Below.refl _ _, World.ownsRow_nil _ _ _ _⟩
  case round =>
    obtain ⟨k, c', A', hk, rfl, rfl, hb, HO⟩ := hrel
    have hsz := hb.size
    by_cases hlt : k < n
    · obtain ⟨b, off, x, y, d, rfl, hbl, hxx, q0, q1, q2⟩ := (HR.out.on hb).at3 hlt
      obtain ⟨hxa, hxb, hxc⟩ : I64 x ∧ I64 y ∧ I64 d := hx _ (List.mem_of_getElem? hxx.out)
      have HX := Lib.hid (take_succ_of hxx.out)
      have i1 : (k : Int) < (n : Int) := by omega
      have i2 : (0 : Int) ≤ (k : Int) := by omega
      go_wp2_with fail
      have KB : Blk ((wr.alloc (.cells #[.int .i64 x, .int .i64 y, .int .i64 d] 60)).alloc (.cells #[.int .i64 x, .int .i64 y, .int .i64 d] 2)) (wr.heap.size) 60 #[.int .i64 x, .int .i64 y, .int .i64 d] := by have hk := (Blk.new wr 60 #[.int .i64 x, .int .i64 y, .int .i64 d]).alloc (.cells #[.int .i64 x, .int .i64 y, .int .i64 d] 2); simpa using hk
      have KS : Blk ((wr.alloc (.cells #[.int .i64 x, .int .i64 y, .int .i64 d] 60)).alloc (.cells #[.int .i64 x, .int .i64 y, .int .i64 d] 2)) (wr.heap.size + 1) 2 #[.int .i64 x, .int .i64 y, .int .i64 d] := by have hk := Blk.new (wr.alloc (.cells #[.int .i64 x, .int .i64 y, .int .i64 d] 60)) 2 #[.int .i64 x, .int .i64 y, .int .i64 d]; simpa using hk
      have hbu : Below wr.heap.size wr ((wr.alloc (.cells #[.int .i64 x, .int .i64 y, .int .i64 d] 60)).alloc (.cells #[.int .i64 x, .int .i64 y, .int .i64 d] 2)) := (by repeat (first | exact Below.refl _ _ | assumption | refine Below.drew ?_ | refine below_drewN ?_ _ | refine Below.alloc ?_ (by first | omega | (simp <;> omega)) _ | refine Below.setCell ?_ (by first | omega | (simp <;> omega)) _))
      generalize ((wr.alloc (.cells #[.int .i64 x, .int .i64 y, .int .i64 d] 60)).alloc (.cells #[.int .i64 x, .int .i64 y, .int .i64 d] 2)) = u at *
      have HTu := Lib.hid ((HT.out.on hb).on hbu)
      have HOu := Lib.hid (own_below HO.out hbu)
      have HBu := Lib.hid (below_app hb hbu hsz)
      clear HO hb hbu q0 q1 q2 KB
      with_reducible refine (commasOf_any _ _ _ [x, y, d] _ (rd3_blk KS) (by decide) (by decide) (by
        intro z hz
        simp only [List.mem_cons, List.mem_nil_iff, or_false] at hz
        rcases hz with rfl | rfl | rfl
        · exact hxa
        · exact hxb
        · exact hxc) HTu.out).mono ?_
      rintro e w2 ⟨rfl, hb2⟩
      rw [show jnB ([x, y, d].map decS) ⟨#[44]⟩ = ftS (x, y, d) from rfl]
      have HO2 := Lib.hid (own_below HOu.out hb2)
      have HB2 := Lib.hid (below_app HBu.out hb2 HBu.out.size)
      have hz2' := HB2.out.size
      clear hb2 HOu HBu
      go_wp2_with (at_builtin; with_reducible refine app_one _ cs1_len oneS1 rfl (.tmp 12) (.tmp 21) 30 rfl w.heap.size 9 i0 _ Tryz.underlying30 hi hz0 hz1 hz2 rfl (by decide) (by decide) A' k c' _ rfl (HO2.out.alloc _) w2.heap.size 1 (ftS (x, y, d)) rfl ?_ (by omega) ?_ ?_)
      · intro j u hu; have h8 := Cell1s.newF w2 9 (ftS (x, y, d)) j u (by simpa using hu); simpa using h8
      · simp; omega
      · intro A3 c3' w3 hw3 hb3
        have HB3 := Lib.hid ((HB2.out.alloc hz2' _).trans hb3)
        have HO3 : Hid (w3.ownsRow w.heap.size 9 1 (.slice A3 (k + 1) c3') (k + 1) (((xs.take (k + 1)).map ftS).flatMap cs1)) := by
          show World.ownsRow _ _ _ _ _ _ _
          rw [HX.out, List.map_append, List.map_cons, List.map_nil, flat_snoc, List.map_take]; exact hw3
        clear hw3 hb3
        go_wp2
        exact ⟨⟨k + 1, c3', A3, by omega, by go_num, rfl, HB3.out, HO3.out⟩, by simp [intOf]; omega⟩
    · have hkn : k = n := by omega
      subst hkn
      rw [List.take_of_length_le (by rw [HL.out]; exact Nat.le_refl _)] at HO
      have HB := Lib.hid hb
      clear hb
      go_wp2
      go_ret
      exact ⟨A', c', rfl, HO.out, HB.out⟩
def ftR (xs : List T3) : ByteArray := if featsOk 384 xs = true then ftT xs else ⟨#[]⟩
theorem featsOk_ok3 {m : Int} {xs : List T3} (h : featsOk m xs = true) : ∀ x ∈ xs, ok3 x := by
  intro x hx
  have h1 := List.all_eq_true.1 (Bool.and_eq_true_iff.1 h).1 x hx
  obtain ⟨⟨a, b⟩, ⟨c, d⟩, e, f⟩ := featB_iff.1 h1
  exact ⟨⟨by omega, by omega⟩, ⟨by omega, by omega⟩, ⟨by omega, by omega⟩⟩
theorem featsOk_len9 {m : Int} {xs : List T3} (h : featsOk m xs = true) : 1 ≤ (xs.length : Int) ∧ (xs.length : Int) ≤ m := inB_iff.1 (Bool.and_eq_true_iff.1 h).2
end Go.Proofs.YtnjifhlabbejoaaGreatDoor
