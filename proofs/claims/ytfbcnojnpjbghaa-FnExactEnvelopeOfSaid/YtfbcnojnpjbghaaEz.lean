/- EnvelopeOf. -/
import Derived.Test.YtfbcnojnpjbghaaEm
import Derived.Test.YtfbcnojnpjbghaaEq
import Derived.Test.YtfbcnojnpjbghaaWc
namespace Go.Proofs.Ytfbcnojnpjbghaa
open Go.ChangeShapes Go.WideShapes Go.ChangeAt Go.RowKit
set_option linter.unusedVariables false
set_option linter.unusedSimpArgs false
def evE (xs : List T3) (n band : Int) : Int := if featsOk 72 xs = true then (if (inB 1 72 n && bandOk n.toNat xs.length band) = true then 0 else 2) else 1
def evMn (g : T3 → Int) (xs : List T3) (n band : Int) : List Int := if evE xs n band = 0 then mnL g xs band.toNat n.toNat else []
def evMx (g : T3 → Int) (xs : List T3) (n band : Int) : List Int := if evE xs n band = 0 then mxL g xs band.toNat n.toNat else []
def evN (xs : List T3) (n band : Int) : Nat := if evE xs n band = 0 then n.toNat else 0
/-- Four rows of their own, their lengths known. -/
def R4L (w : World) (base k : Nat) (A B C D : Option Addr) (ca cb cc cd : Nat) (la lb lc ld : List Int) : Prop := R4 w base k A B C D ca cb cc cd la lb lc ld ∧ la.length = k ∧ lb.length = k ∧ lc.length = k ∧ ld.length = k
section
variable {w w' : World} {base k : Nat} {A B C D : Option Addr} {ca cb cc cd : Nat} {la lb lc ld : List Int}
theorem R4.on (h : R4 w base k A B C D ca cb cc cd la lb lc ld) (hb : Below w.heap.size w w') : R4 w' base k A B C D ca cb cc cd la lb lc ld :=
  ⟨own_below h.1 hb, own_below h.2.1 hb, own_below h.2.2.1 hb, own_below h.2.2.2.1 hb, h.2.2.2.2⟩
theorem R4L.on (h : R4L w base k A B C D ca cb cc cd la lb lc ld) (hb : Below w.heap.size w w') : R4L w' base k A B C D ca cb cc cd la lb lc ld := ⟨h.1.on hb, h.2⟩
theorem R4L.a (h : R4L w base k A B C D ca cb cc cd la lb lc ld) : RdL c1 1 w w.heap.size A k ca la := RdL.of_own h.2.1 h.1.1
theorem R4L.b (h : R4L w base k A B C D ca cb cc cd la lb lc ld) : RdL c1 1 w w.heap.size B k cb lb := RdL.of_own h.2.2.1 h.1.2.1
theorem R4L.c (h : R4L w base k A B C D ca cb cc cd la lb lc ld) : RdL c1 1 w w.heap.size C k cc lc := RdL.of_own h.2.2.2.1 h.1.2.2.1
theorem R4L.d (h : R4L w base k A B C D ca cb cc cd la lb lc ld) : RdL c1 1 w w.heap.size D k cd ld := RdL.of_own h.2.2.2.2 h.1.2.2.2.1
theorem R4L.nil (w : World) (base : Nat) : R4L w base 0 none none none none 0 0 0 0 [] [] [] [] := ⟨R4.nil _ _, rfl, rfl, rfl, rfl⟩
theorem R4L.kept (h : R4L w base k A B C D ca cb cc cd la lb lc ld) {r : Option Nat} (hg : w.grownBy w' r) (hr : ∀ q, r = some q → q < base) : R4L w' base k A B C D ca cb cc cd la lb lc ld :=
  ⟨⟨h.1.1.kept hg (own_ne h.1.1 hr), h.1.2.1.kept hg (own_ne h.1.2.1 hr), h.1.2.2.1.kept hg (own_ne h.1.2.2.1 hr), h.1.2.2.2.1.kept hg (own_ne h.1.2.2.2.1 hr), h.1.2.2.2.2⟩, h.2⟩
theorem R4L.own (h : R4L w base k A B C D ca cb cc cd la lb lc ld) : (∀ a, A = some a → base ≤ a.block ∧ a.block < w.heap.size) ∧ (∀ a, B = some a → base ≤ a.block ∧ a.block < w.heap.size) ∧ (∀ a, C = some a → base ≤ a.block ∧ a.block < w.heap.size) ∧ (∀ a, D = some a → base ≤ a.block ∧ a.block < w.heap.size) :=
  ⟨own_blk h.1.1, own_blk h.1.2.1, own_blk h.1.2.2.1, own_blk h.1.2.2.2.1⟩
end
theorem ne_of_dj {A B : Option Addr} (h : djB A B) (n c n' c' : Nat) : (Value.slice B n' c').ownBlock = none ∨ (Value.slice B n' c').ownBlock ≠ (Value.slice A n c).ownBlock := by
  cases A with
  | none => cases B <;> simp [Value.ownBlock]
  | some a =>
    cases B with
    | none => simp [Value.ownBlock]
    | some b => have := h a b rfl rfl; simp [Value.ownBlock]; exact fun e => this e.symm
def offB (A : Option Addr) (b : Nat) : Prop := ∀ a, A = some a → a.block ≠ b
theorem off_own {A : Option Addr} {n c b : Nat} (h : offB A b) (q : Nat) (hq : (Value.slice A n c).ownBlock = some q) : q ≠ b := by
  cases A with
  | none => simp [Value.ownBlock] at hq
  | some a => simp [Value.ownBlock] at hq; rw [← hq]; exact h a rfl
theorem own_rowlt {A : Option Addr} {n c q base H : Nat} (h : ∀ a, A = some a → base ≤ a.block ∧ a.block < H) (hq : (Value.slice A n c).ownBlock = some q) : base ≤ q ∧ q < H := by
  cases A with
  | none => simp [Value.ownBlock] at hq
  | some a => simp [Value.ownBlock] at hq; obtain ⟨h1, h2⟩ := h a rfl; omega
set_option maxRecDepth 100000 in
set_option maxHeartbeats 1000000 in
theorem markEnv_any (A B C D : Option Addr) (N ca cb cc cd base : Nat) (la lb lc ld : List Int) (k : Int) (w : World) (h : R4L w base N A B C D ca cb cc cd la lb lc ld) (hn : N ≤ 72) (hk0 : 0 ≤ k) (hk1 : k ≤ 1000) (hB : base ≤ w.heap.size) :
    Calls Try.prog 21 #[.agg #[.slice A N ca, .slice B N cb, .slice C N cc, .slice D N cd], .int .i64 k] w fun e w' => e = .returned (.int .i64 (k + N + N + N + N)) ∧ R4L w' base N A B C D ca cb cc cd (marks1 k N) (marks1 (k + N) N) (marks1 (k + N + N) N) (marks1 (k + N + N + N) N) ∧ Below base w w' ∧ (∀ b T vs, Blk w b T vs → offB A b → offB B b → offB C b → offB D b → Blk w' b T vs) := by
  obtain ⟨⟨oA, oB, oC, oD, jAB, jAC, jAD, jBC, jBD, jCD⟩, _⟩ := h
  go_enter Try.func21, Try.ntmps21
  go_wp2_with fail
  have K0 := Blk.new (w) 35 #[.slice A N ca, .slice B N cb, .slice C N cc, .slice D N cd]
  have hbv : Below (w).heap.size (w) ((w).alloc (.cells #[.slice A N ca, .slice B N cb, .slice C N cc, .slice D N cd] 35)) := (Below.refl _ _).alloc (Nat.le_refl _) _
  generalize (w).alloc (.cells #[.slice A N ca, .slice B N cb, .slice C N cc, .slice D N cd] 35) = v at *
  have lA := own_blk oA
  have lB := own_blk oB
  have lC := own_blk oC
  have lD := own_blk oD
  have hb := hbv.mono hB
  have KK : ∀ b T vs, Blk w b T vs → offB A b → offB B b → offB C b → offB D b → Blk v b T vs := fun b T vs h _ _ _ _ => h.on hbv
  replace oA := own_below oA hbv
  replace oB := own_below oB hbv
  replace oC := own_below oC hbv
  replace oD := own_below oD hbv
  have zv := hbv.size
  with_reducible refine (markInt64S_any A N ca base _ (k) _ oA (by omega) (by omega) (by omega)).mono ?_
  rintro e w1 ⟨rfl, pA, hgA⟩
  replace oB := oB.kept hgA (ne_of_dj (jAB) N ca N cb)
  replace oC := oC.kept hgA (ne_of_dj (jAC) N ca N cc)
  replace oD := oD.kept hgA (ne_of_dj (jAD) N ca N cd)
  replace hb := hb.grown hgA (by omega) (fun q hq => (own_rowlt lA hq).1)
  replace K0 := K0.kept hgA (fun q hq => by have h9 := (own_rowlt lA hq).2; omega)
  have ozA := hgA.size
  replace KK : ∀ b T vs, Blk w b T vs → offB A b → offB B b → offB C b → offB D b → Blk w1 b T vs := fun b T vs h aA aB aC aD => (KK b T vs h aA aB aC aD).kept hgA (off_own aA)
  have oA := pA
  clear pA hgA
  have kc0 := K0.cell 0
  have kc1 := K0.cell 1
  have kc2 := K0.cell 2
  have kc3 := K0.cell 3
  simp only [List.getElem?_toArray, List.getElem?_cons_succ, List.getElem?_cons_zero] at kc0 kc1 kc2 kc3
  have kz := K0.lt
  go_wp2_with fail
  clear kc0 kc1 kc2 kc3 kz
  with_reducible refine (markInt64S_any B N cb base _ (k + N) _ oB (by omega) (by omega) (by omega)).mono ?_
  rintro e w2 ⟨rfl, pB, hgB⟩
  replace oA := oA.kept hgB (ne_of_dj ((jAB).sym) N cb N ca)
  replace oC := oC.kept hgB (ne_of_dj (jBC) N cb N cc)
  replace oD := oD.kept hgB (ne_of_dj (jBD) N cb N cd)
  replace hb := hb.grown hgB (by omega) (fun q hq => (own_rowlt lB hq).1)
  replace K0 := K0.kept hgB (fun q hq => by have h9 := (own_rowlt lB hq).2; omega)
  have ozB := hgB.size
  replace KK : ∀ b T vs, Blk w b T vs → offB A b → offB B b → offB C b → offB D b → Blk w2 b T vs := fun b T vs h aA aB aC aD => (KK b T vs h aA aB aC aD).kept hgB (off_own aB)
  have oB := pB
  clear pB hgB
  have kc0 := K0.cell 0
  have kc1 := K0.cell 1
  have kc2 := K0.cell 2
  have kc3 := K0.cell 3
  simp only [List.getElem?_toArray, List.getElem?_cons_succ, List.getElem?_cons_zero] at kc0 kc1 kc2 kc3
  have kz := K0.lt
  go_wp2_with fail
  clear kc0 kc1 kc2 kc3 kz
  with_reducible refine (markInt64S_any C N cc base _ (k + N + N) _ oC (by omega) (by omega) (by omega)).mono ?_
  rintro e w3 ⟨rfl, pC, hgC⟩
  replace oA := oA.kept hgC (ne_of_dj ((jAC).sym) N cc N ca)
  replace oB := oB.kept hgC (ne_of_dj ((jBC).sym) N cc N cb)
  replace oD := oD.kept hgC (ne_of_dj (jCD) N cc N cd)
  replace hb := hb.grown hgC (by omega) (fun q hq => (own_rowlt lC hq).1)
  replace K0 := K0.kept hgC (fun q hq => by have h9 := (own_rowlt lC hq).2; omega)
  have ozC := hgC.size
  replace KK : ∀ b T vs, Blk w b T vs → offB A b → offB B b → offB C b → offB D b → Blk w3 b T vs := fun b T vs h aA aB aC aD => (KK b T vs h aA aB aC aD).kept hgC (off_own aC)
  have oC := pC
  clear pC hgC
  have kc0 := K0.cell 0
  have kc1 := K0.cell 1
  have kc2 := K0.cell 2
  have kc3 := K0.cell 3
  simp only [List.getElem?_toArray, List.getElem?_cons_succ, List.getElem?_cons_zero] at kc0 kc1 kc2 kc3
  have kz := K0.lt
  go_wp2_with fail
  clear kc0 kc1 kc2 kc3 kz
  with_reducible refine (markInt64S_any D N cd base _ (k + N + N + N) _ oD (by omega) (by omega) (by omega)).mono ?_
  rintro e w4 ⟨rfl, pD, hgD⟩
  replace oA := oA.kept hgD (ne_of_dj ((jAD).sym) N cd N ca)
  replace oB := oB.kept hgD (ne_of_dj ((jBD).sym) N cd N cb)
  replace oC := oC.kept hgD (ne_of_dj ((jCD).sym) N cd N cc)
  replace hb := hb.grown hgD (by omega) (fun q hq => (own_rowlt lD hq).1)
  replace K0 := K0.kept hgD (fun q hq => by have h9 := (own_rowlt lD hq).2; omega)
  have ozD := hgD.size
  replace KK : ∀ b T vs, Blk w b T vs → offB A b → offB B b → offB C b → offB D b → Blk w4 b T vs := fun b T vs h aA aB aC aD => (KK b T vs h aA aB aC aD).kept hgD (off_own aD)
  have oD := pD
  clear pD hgD
  go_wp2
  go_ret
  exact ⟨rfl, ⟨⟨oA, oB, oC, oD, jAB, jAC, jAD, jBC, jBD, jCD⟩, marks1_len _ _, marks1_len _ _, marks1_len _ _, marks1_len _ _⟩, hb, KK⟩
set_option maxRecDepth 100000 in
set_option maxHeartbeats 1000000 in
theorem heldEnv_any (A B C D : Option Addr) (N ca cb cc cd : Nat) (k : Int) (w : World) (ra : RdL c1 1 w w.heap.size A N ca (marks1 k N)) (rb : RdL c1 1 w w.heap.size B N cb (marks1 (k + N) N)) (rc : RdL c1 1 w w.heap.size C N cc (marks1 (k + N + N) N)) (rd : RdL c1 1 w w.heap.size D N cd (marks1 (k + N + N + N) N)) (hn : N ≤ 72) (hk0 : 0 ≤ k) (hk1 : k ≤ 1000) :
    Calls Try.prog 22 #[.agg #[.slice A N ca, .slice B N cb, .slice C N cc, .slice D N cd], .int .i64 k] w fun e w' => e = .returned (.int .i64 (k + N + N + N + N)) ∧ Below w.heap.size w w' := by
  go_enter Try.func22, Try.ntmps22
  go_wp2_with fail
  have K0 := Blk.new (w) 35 #[.slice A N ca, .slice B N cb, .slice C N cc, .slice D N cd]
  have hbv : Below (w).heap.size (w) ((w).alloc (.cells #[.slice A N ca, .slice B N cb, .slice C N cc, .slice D N cd] 35)) := (Below.refl _ _).alloc (Nat.le_refl _) _
  generalize (w).alloc (.cells #[.slice A N ca, .slice B N cb, .slice C N cc, .slice D N cd] 35) = v at *
  have B0 := hbv
  with_reducible refine (heldInt64S_any A N ca (k) _ (ra.on B0) (by omega) (by omega) (by omega)).mono ?_
  rintro e w1 ⟨rfl, hbw1⟩
  replace B0 := below_on hbw1 B0
  replace K0 := K0.on hbw1
  have kc0 := K0.cell 0
  have kc1 := K0.cell 1
  have kc2 := K0.cell 2
  have kc3 := K0.cell 3
  simp only [List.getElem?_toArray, List.getElem?_cons_succ, List.getElem?_cons_zero] at kc0 kc1 kc2 kc3
  have kz := K0.lt
  go_wp2_with fail
  clear kc0 kc1 kc2 kc3 kz
  with_reducible refine (heldInt64S_any B N cb (k + N) _ (rb.on B0) (by omega) (by omega) (by omega)).mono ?_
  rintro e w2 ⟨rfl, hbw2⟩
  replace B0 := below_on hbw2 B0
  replace K0 := K0.on hbw2
  have kc0 := K0.cell 0
  have kc1 := K0.cell 1
  have kc2 := K0.cell 2
  have kc3 := K0.cell 3
  simp only [List.getElem?_toArray, List.getElem?_cons_succ, List.getElem?_cons_zero] at kc0 kc1 kc2 kc3
  have kz := K0.lt
  go_wp2_with fail
  clear kc0 kc1 kc2 kc3 kz
  with_reducible refine (heldInt64S_any C N cc (k + N + N) _ (rc.on B0) (by omega) (by omega) (by omega)).mono ?_
  rintro e w3 ⟨rfl, hbw3⟩
  replace B0 := below_on hbw3 B0
  replace K0 := K0.on hbw3
  have kc0 := K0.cell 0
  have kc1 := K0.cell 1
  have kc2 := K0.cell 2
  have kc3 := K0.cell 3
  simp only [List.getElem?_toArray, List.getElem?_cons_succ, List.getElem?_cons_zero] at kc0 kc1 kc2 kc3
  have kz := K0.lt
  go_wp2_with fail
  clear kc0 kc1 kc2 kc3 kz
  with_reducible refine (heldInt64S_any D N cd (k + N + N + N) _ (rd.on B0) (by omega) (by omega) (by omega)).mono ?_
  rintro e w4 ⟨rfl, hbw4⟩
  replace B0 := below_on hbw4 B0
  replace K0 := K0.on hbw4
  go_wp2
  go_ret
  exact ⟨rfl, B0⟩
set_option maxRecDepth 100000 in
set_option maxHeartbeats 4000000 in
theorem iEnvelope_any (Q : Option Addr) (m c : Nat) (xs : List T3) (n band : Int) (w : World) (hr : RdL c3 3 w w.heap.size Q m c xs) (hm : m ≤ 1048576) :
    Calls Try.prog 18 #[.slice Q m c, .int .i64 n, .int .i64 band] w fun e w' => ∃ A B C D ca cb cc cd N, e = .returned (.tuple #[.agg #[.slice A N ca, .slice B N cb, .slice C N cc, .slice D N cd], .int .i64 (evE xs n band)]) ∧ R4L w' w.heap.size N A B C D ca cb cc cd (evMn pX xs n band) (evMx pX xs n band) (evMn pY xs n band) (evMx pY xs n band) ∧ N ≤ 72 ∧ Below w.heap.size w w' := by
  have hl := Lib.hid hr.len
  have KO := Blk.new w 35 #[.slice none 0 0, .slice none 0 0, .slice none 0 0, .slice none 0 0]
  have hbv : Below w.heap.size w (w.alloc (.cells #[.slice none 0 0, .slice none 0 0, .slice none 0 0, .slice none 0 0] 35)) := (Below.refl _ _).alloc (Nat.le_refl _) _
  cases h1 : featsOk 72 xs with
  | false =>
    have HE : evE xs n band = 1 := by unfold evE; rw [h1]; rfl
    have F : Hid (evE xs n band = 1 ∧ evMn pX xs n band = [] ∧ evMx pX xs n band = [] ∧ evMn pY xs n band = [] ∧ evMx pY xs n band = []) := by unfold Hid evMn evMx; rw [HE]; exact ⟨rfl, rfl, rfl, rfl, rfl⟩
    clear HE
    go_enter Try.func18, Try.ntmps18
    go_wp2_with fail
    generalize w.alloc (.cells #[.slice none 0 0, .slice none 0 0, .slice none 0 0, .slice none 0 0] 35) = v at *
    with_reducible refine (iValidSeq_any _ _ _ xs _ (hr.on hbv) hm).mono ?_
    rintro e w1 ⟨rfl, hbw1⟩
    rw [h1]
    replace KO := KO.on hbw1
    replace hbv := below_on hbw1 hbv
    have d0 := KO.cell 0
    have d1 := KO.cell 1
    have d2 := KO.cell 2
    have d3 := KO.cell 3
    simp only [List.getElem?_toArray, List.getElem?_cons_succ, List.getElem?_cons_zero] at d0 d1 d2 d3
    have f0 := KO.frozen 0
    have f1 := KO.frozen 1
    have f2 := KO.frozen 2
    have f3 := KO.frozen 3
    have zO := KO.lt
    go_wp2
    rw [F.out.1, F.out.2.1, F.out.2.2.1, F.out.2.2.2.1, F.out.2.2.2.2]
    exact bodyPost_ret (v := .tuple #[.agg #[.slice none 0 0, .slice none 0 0, .slice none 0 0, .slice none 0 0], .int .i64 1]) (by simp [results, Try.results18, go_sem, d0, d1, d2, d3]) rfl ⟨none, none, none, none, 0, 0, 0, 0, 0, rfl, R4L.nil _ _, by decide, (by repeat (first | exact Below.refl _ _ | assumption | refine Below.drew ?_ | refine below_drewN ?_ _ | refine Below.alloc ?_ (by first | omega | (simp <;> omega)) _ | refine Below.setCell ?_ (by first | omega | (simp <;> omega)) _))⟩
  | true =>
    have H1 := Lib.hid h1
    by_cases h2 : (inB 1 72 n && bandOk n.toNat xs.length band) = true
    · have HE : evE xs n band = 0 := by unfold evE; rw [h1, if_pos rfl, if_pos h2]
      have h3 := (Bool.and_eq_true_iff.1 h2).1
      have h4 := (Bool.and_eq_true_iff.1 h2).2
      obtain ⟨n0, n1⟩ := inB_iff.1 h3
      obtain ⟨N, rfl⟩ := Int.eq_ofNat_of_zero_le (show 0 ≤ n by omega)
      rw [Int.toNat_natCast] at h4
      obtain ⟨⟨b0, b1⟩, b2⟩ := bandOk_iff.1 h4
      obtain ⟨bd, rfl⟩ := Int.eq_ofNat_of_zero_le b0
      rw [hl.out] at h4 b2
      have F : Hid (evE xs N bd = 0 ∧ evMn pX xs N bd = mnL pX xs bd N ∧ evMx pX xs N bd = mxL pX xs bd N ∧ evMn pY xs N bd = mnL pY xs bd N ∧ evMx pY xs N bd = mxL pY xs bd N) := by unfold Hid evMn evMx; rw [HE]; exact ⟨rfl, rfl, rfl, rfl, rfl⟩
      obtain ⟨_, hm1, hm2⟩ := featsOk_bd h1
      rw [hl.out] at hm1 hm2
      have H3 := Lib.hid h3
      have H4 := Lib.hid h4
      clear HE h2 h3 h4 h1
      go_enter Try.func18, Try.ntmps18
      go_wp2_with fail
      generalize w.alloc (.cells #[.slice none 0 0, .slice none 0 0, .slice none 0 0, .slice none 0 0] 35) = v at *
      with_reducible refine (iValidSeq_any _ _ _ xs _ (hr.on hbv) hm).mono ?_
      rintro e w1 ⟨rfl, hbw1⟩
      rw [H1.out]
      replace KO := KO.on hbw1
      replace hbv := below_on hbw1 hbv
      go_wp2_with (go_at_call 56; with_reducible refine (within_any _ _ _ _).mono ?_; rintro e w' ⟨rfl, rfl⟩; rw [H3.out])
      with_reducible refine (isBand_any _ N m _ (by omega) (by omega)).mono ?_
      rintro e w' ⟨rfl, rfl⟩
      rw [H4.out]
      go_wp2_with fail
      with_reducible refine (envelopeOf_any _ _ _ xs N bd _ (hr.on hbv) H1.out (by omega) (by omega) (by omega) (by omega) (by omega)).mono ?_
      rintro e w2 ⟨A, B, C, D, ca, cb, cc, cd, rfl, r4, hbw2⟩
      have zb := KO.lt
      replace KO := KO.on hbw2
      have hw1 := hbv.size
      replace hbv := below_on hbw2 hbv
      have d0 := KO.cell 0
      have d1 := KO.cell 1
      have d2 := KO.cell 2
      have d3 := KO.cell 3
      simp only [List.getElem?_toArray, List.getElem?_cons_succ, List.getElem?_cons_zero] at d0 d1 d2 d3
      have f0 := KO.frozen 0
      have f1 := KO.frozen 1
      have f2 := KO.frozen 2
      have f3 := KO.frozen 3
      have zO := KO.lt
      obtain ⟨oA, oB, oC, oD, J⟩ := r4
      have P := Lib.hid (And.intro oA (And.intro oB (And.intro oC oD)))
      clear oA oB oC oD
      go_wp2
      rw [F.out.1, F.out.2.1, F.out.2.2.1, F.out.2.2.2.1, F.out.2.2.2.2]
      refine bodyPost_ret (v := .tuple #[.agg #[.slice A N ca, .slice B N cb, .slice C N cc, .slice D N cd], .int .i64 0]) (by simp [results, Try.results18, go_sem, d0, d1, d2, d3]) rfl ⟨A, B, C, D, ca, cb, cc, cd, N, rfl, ⟨?_, mnL_len _ _ _ _, mxL_len _ _ _ _, mnL_len _ _ _ _, mxL_len _ _ _ _⟩, by omega, (by repeat (first | exact Below.refl _ _ | assumption | refine Below.drew ?_ | refine below_drewN ?_ _ | refine Below.alloc ?_ (by first | omega | (simp <;> omega)) _ | refine Below.setCell ?_ (by first | omega | (simp <;> omega)) _))⟩
      obtain ⟨oA, oB, oC, oD⟩ := P.out
      refine ⟨?_, ?_, ?_, ?_, J⟩ <;> refine own_mono (base := w1.heap.size) ?_ hw1
      · exact ownsRow_setCell_below (ownsRow_setCell_below (ownsRow_setCell_below (ownsRow_setCell_below (oA) (by simp only; omega) _) (by simp only; omega) _) (by simp only; omega) _) (by simp only; omega) _
      · exact ownsRow_setCell_below (ownsRow_setCell_below (ownsRow_setCell_below (ownsRow_setCell_below (oB) (by simp only; omega) _) (by simp only; omega) _) (by simp only; omega) _) (by simp only; omega) _
      · exact ownsRow_setCell_below (ownsRow_setCell_below (ownsRow_setCell_below (ownsRow_setCell_below (oC) (by simp only; omega) _) (by simp only; omega) _) (by simp only; omega) _) (by simp only; omega) _
      · exact ownsRow_setCell_below (ownsRow_setCell_below (ownsRow_setCell_below (ownsRow_setCell_below (oD) (by simp only; omega) _) (by simp only; omega) _) (by simp only; omega) _) (by simp only; omega) _
    · have HE : evE xs n band = 2 := by unfold evE; rw [h1, if_pos rfl, if_neg h2]
      have F : Hid (evE xs n band = 2 ∧ evMn pX xs n band = [] ∧ evMx pX xs n band = [] ∧ evMn pY xs n band = [] ∧ evMx pY xs n band = []) := by unfold Hid evMn evMx; rw [HE]; exact ⟨rfl, rfl, rfl, rfl, rfl⟩
      clear HE
      obtain ⟨_, hm1, hm2⟩ := featsOk_bd h1
      rw [hl.out] at hm1 hm2
      cases h3 : inB 1 72 n with
      | false =>
        clear h2
        go_enter Try.func18, Try.ntmps18
        go_wp2_with fail
        generalize w.alloc (.cells #[.slice none 0 0, .slice none 0 0, .slice none 0 0, .slice none 0 0] 35) = v at *
        with_reducible refine (iValidSeq_any _ _ _ xs _ (hr.on hbv) hm).mono ?_
        rintro e w1 ⟨rfl, hbw1⟩
        rw [H1.out]
        replace KO := KO.on hbw1
        replace hbv := below_on hbw1 hbv
        have d0 := KO.cell 0
        have d1 := KO.cell 1
        have d2 := KO.cell 2
        have d3 := KO.cell 3
        simp only [List.getElem?_toArray, List.getElem?_cons_succ, List.getElem?_cons_zero] at d0 d1 d2 d3
        have f0 := KO.frozen 0
        have f1 := KO.frozen 1
        have f2 := KO.frozen 2
        have f3 := KO.frozen 3
        have zO := KO.lt
        go_wp2_with (first | (go_at_call 56; with_reducible refine (within_any _ _ _ _).mono ?_; rintro e w' ⟨rfl, rfl⟩))
        go_wp2
        rw [F.out.1, F.out.2.1, F.out.2.2.1, F.out.2.2.2.1, F.out.2.2.2.2]
        exact bodyPost_ret (v := .tuple #[.agg #[.slice none 0 0, .slice none 0 0, .slice none 0 0, .slice none 0 0], .int .i64 2]) (by simp [results, Try.results18, go_sem, d0, d1, d2, d3]) rfl ⟨none, none, none, none, 0, 0, 0, 0, 0, rfl, R4L.nil _ _, by decide, (by repeat (first | exact Below.refl _ _ | assumption | refine Below.drew ?_ | refine below_drewN ?_ _ | refine Below.alloc ?_ (by first | omega | (simp <;> omega)) _ | refine Below.setCell ?_ (by first | omega | (simp <;> omega)) _))⟩
      | true =>
        rw [h3, Bool.true_and] at h2
        obtain ⟨n0, n1⟩ := inB_iff.1 h3
        obtain ⟨N, rfl⟩ := Int.eq_ofNat_of_zero_le (show 0 ≤ n by omega)
        have h4 : bandOk N m band = false := by rw [Int.toNat_natCast, hl.out] at h2; simpa using h2
        have H3 := Lib.hid h3
        have H4 := Lib.hid h4
        clear h2 h3 h4
        go_enter Try.func18, Try.ntmps18
        go_wp2_with fail
        generalize w.alloc (.cells #[.slice none 0 0, .slice none 0 0, .slice none 0 0, .slice none 0 0] 35) = v at *
        with_reducible refine (iValidSeq_any _ _ _ xs _ (hr.on hbv) hm).mono ?_
        rintro e w1 ⟨rfl, hbw1⟩
        rw [H1.out]
        replace KO := KO.on hbw1
        replace hbv := below_on hbw1 hbv
        go_wp2_with (go_at_call 56; with_reducible refine (within_any _ _ _ _).mono ?_; rintro e w' ⟨rfl, rfl⟩; rw [H3.out])
        with_reducible refine (isBand_any _ N m _ (by omega) (by omega)).mono ?_
        rintro e w' ⟨rfl, rfl⟩
        rw [H4.out]
        have d0 := KO.cell 0
        have d1 := KO.cell 1
        have d2 := KO.cell 2
        have d3 := KO.cell 3
        simp only [List.getElem?_toArray, List.getElem?_cons_succ, List.getElem?_cons_zero] at d0 d1 d2 d3
        have f0 := KO.frozen 0
        have f1 := KO.frozen 1
        have f2 := KO.frozen 2
        have f3 := KO.frozen 3
        have zO := KO.lt
        go_wp2
        rw [F.out.1, F.out.2.1, F.out.2.2.1, F.out.2.2.2.1, F.out.2.2.2.2]
        exact bodyPost_ret (v := .tuple #[.agg #[.slice none 0 0, .slice none 0 0, .slice none 0 0, .slice none 0 0], .int .i64 2]) (by simp [results, Try.results18, go_sem, d0, d1, d2, d3]) rfl ⟨none, none, none, none, 0, 0, 0, 0, 0, rfl, R4L.nil _ _, by decide, (by repeat (first | exact Below.refl _ _ | assumption | refine Below.drew ?_ | refine below_drewN ?_ _ | refine Below.alloc ?_ (by first | omega | (simp <;> omega)) _ | refine Below.setCell ?_ (by first | omega | (simp <;> omega)) _))⟩
set_option maxRecDepth 100000 in
set_option maxHeartbeats 4000000 in
theorem sEnvelope_any (Q : Option Addr) (m c : Nat) (xs : List T3) (n band : Int) (w : World) (hr : RdL c3 3 w w.heap.size Q m c xs) (hm : m ≤ 1048576) :
    Calls Try.prog 17 #[.slice Q m c, .int .i64 n, .int .i64 band] w fun e w' => ∃ A B C D ca cb cc cd N, e = .returned (.tuple #[.agg #[.slice A N ca, .slice B N cb, .slice C N cc, .slice D N cd], .int .i64 (evE xs n band)]) ∧ R4L w' w.heap.size N A B C D ca cb cc cd (evMn pX xs n band) (evMx pX xs n band) (evMn pY xs n band) (evMx pY xs n band) ∧ N ≤ 72 ∧ Below w.heap.size w w' := by
  have hl := Lib.hid hr.len
  have KO := Blk.new w 35 #[.slice none 0 0, .slice none 0 0, .slice none 0 0, .slice none 0 0]
  have hbv : Below w.heap.size w (w.alloc (.cells #[.slice none 0 0, .slice none 0 0, .slice none 0 0, .slice none 0 0] 35)) := (Below.refl _ _).alloc (Nat.le_refl _) _
  cases h1 : featsOk 72 xs with
  | false =>
    have HE : evE xs n band = 1 := by unfold evE; rw [h1]; rfl
    have F : Hid (evE xs n band = 1 ∧ evMn pX xs n band = [] ∧ evMx pX xs n band = [] ∧ evMn pY xs n band = [] ∧ evMx pY xs n band = []) := by unfold Hid evMn evMx; rw [HE]; exact ⟨rfl, rfl, rfl, rfl, rfl⟩
    clear HE
    go_enter Try.func17, Try.ntmps17
    go_wp2_with fail
    generalize w.alloc (.cells #[.slice none 0 0, .slice none 0 0, .slice none 0 0, .slice none 0 0] 35) = v at *
    with_reducible refine (l09Ok_any _ _ _ xs _ (hr.on hbv) hm).mono ?_
    rintro e w1 ⟨rfl, hbw1⟩
    rw [h1]
    replace KO := KO.on hbw1
    replace hbv := below_on hbw1 hbv
    have d0 := KO.cell 0
    have d1 := KO.cell 1
    have d2 := KO.cell 2
    have d3 := KO.cell 3
    simp only [List.getElem?_toArray, List.getElem?_cons_succ, List.getElem?_cons_zero] at d0 d1 d2 d3
    have f0 := KO.frozen 0
    have f1 := KO.frozen 1
    have f2 := KO.frozen 2
    have f3 := KO.frozen 3
    have zO := KO.lt
    go_wp2
    rw [F.out.1, F.out.2.1, F.out.2.2.1, F.out.2.2.2.1, F.out.2.2.2.2]
    exact bodyPost_ret (v := .tuple #[.agg #[.slice none 0 0, .slice none 0 0, .slice none 0 0, .slice none 0 0], .int .i64 1]) (by simp [results, Try.results17, go_sem, d0, d1, d2, d3]) rfl ⟨none, none, none, none, 0, 0, 0, 0, 0, rfl, R4L.nil _ _, by decide, (by repeat (first | exact Below.refl _ _ | assumption | refine Below.drew ?_ | refine below_drewN ?_ _ | refine Below.alloc ?_ (by first | omega | (simp <;> omega)) _ | refine Below.setCell ?_ (by first | omega | (simp <;> omega)) _))⟩
  | true =>
    have H1 := Lib.hid h1
    by_cases h2 : (inB 1 72 n && bandOk n.toNat xs.length band) = true
    · have HE : evE xs n band = 0 := by unfold evE; rw [h1, if_pos rfl, if_pos h2]
      have h3 := (Bool.and_eq_true_iff.1 h2).1
      have h4 := (Bool.and_eq_true_iff.1 h2).2
      obtain ⟨n0, n1⟩ := inB_iff.1 h3
      obtain ⟨N, rfl⟩ := Int.eq_ofNat_of_zero_le (show 0 ≤ n by omega)
      rw [Int.toNat_natCast] at h4
      obtain ⟨⟨b0, b1⟩, b2⟩ := bandOk_iff.1 h4
      obtain ⟨bd, rfl⟩ := Int.eq_ofNat_of_zero_le b0
      rw [hl.out] at h4 b2
      have F : Hid (evE xs N bd = 0 ∧ evMn pX xs N bd = mnL pX xs bd N ∧ evMx pX xs N bd = mxL pX xs bd N ∧ evMn pY xs N bd = mnL pY xs bd N ∧ evMx pY xs N bd = mxL pY xs bd N) := by unfold Hid evMn evMx; rw [HE]; exact ⟨rfl, rfl, rfl, rfl, rfl⟩
      obtain ⟨_, hm1, hm2⟩ := featsOk_bd h1
      rw [hl.out] at hm1 hm2
      have H3 := Lib.hid h3
      have H4 := Lib.hid h4
      clear HE h2 h3 h4 h1
      go_enter Try.func17, Try.ntmps17
      go_wp2_with fail
      generalize w.alloc (.cells #[.slice none 0 0, .slice none 0 0, .slice none 0 0, .slice none 0 0] 35) = v at *
      with_reducible refine (l09Ok_any _ _ _ xs _ (hr.on hbv) hm).mono ?_
      rintro e w1 ⟨rfl, hbw1⟩
      rw [H1.out]
      replace KO := KO.on hbw1
      replace hbv := below_on hbw1 hbv
      go_wp2_with (go_at_call 53; with_reducible refine (l00In_any _ _ _ _).mono ?_; rintro e w' ⟨rfl, rfl⟩; rw [H3.out])
      with_reducible refine (l10Band_any N m _ _ (by omega) (by omega)).mono ?_
      rintro e w9 ⟨rfl, hbw9⟩
      rw [H4.out]
      replace KO := KO.on hbw9
      replace hbv := below_on hbw9 hbv
      go_wp2_with fail
      with_reducible refine (l10Of_any _ _ _ xs N bd _ (hr.on hbv) H1.out (by omega) (by omega) (by omega) (by omega) (by omega)).mono ?_
      rintro e w2 ⟨A, B, C, D, ca, cb, cc, cd, rfl, r4, hbw2⟩
      have zb := KO.lt
      replace KO := KO.on hbw2
      have hw1 := hbv.size
      replace hbv := below_on hbw2 hbv
      have d0 := KO.cell 0
      have d1 := KO.cell 1
      have d2 := KO.cell 2
      have d3 := KO.cell 3
      simp only [List.getElem?_toArray, List.getElem?_cons_succ, List.getElem?_cons_zero] at d0 d1 d2 d3
      have f0 := KO.frozen 0
      have f1 := KO.frozen 1
      have f2 := KO.frozen 2
      have f3 := KO.frozen 3
      have zO := KO.lt
      obtain ⟨oA, oB, oC, oD, J⟩ := r4
      have P := Lib.hid (And.intro oA (And.intro oB (And.intro oC oD)))
      clear oA oB oC oD
      go_wp2
      rw [F.out.1, F.out.2.1, F.out.2.2.1, F.out.2.2.2.1, F.out.2.2.2.2]
      refine bodyPost_ret (v := .tuple #[.agg #[.slice A N ca, .slice B N cb, .slice C N cc, .slice D N cd], .int .i64 0]) (by simp [results, Try.results17, go_sem, d0, d1, d2, d3]) rfl ⟨A, B, C, D, ca, cb, cc, cd, N, rfl, ⟨?_, mnL_len _ _ _ _, mxL_len _ _ _ _, mnL_len _ _ _ _, mxL_len _ _ _ _⟩, by omega, (by repeat (first | exact Below.refl _ _ | assumption | refine Below.drew ?_ | refine below_drewN ?_ _ | refine Below.alloc ?_ (by first | omega | (simp <;> omega)) _ | refine Below.setCell ?_ (by first | omega | (simp <;> omega)) _))⟩
      obtain ⟨oA, oB, oC, oD⟩ := P.out
      refine ⟨?_, ?_, ?_, ?_, J⟩ <;> refine own_mono (base := w9.heap.size) ?_ hw1
      · exact ownsRow_setCell_below (ownsRow_setCell_below (ownsRow_setCell_below (ownsRow_setCell_below (oA) (by simp only; omega) _) (by simp only; omega) _) (by simp only; omega) _) (by simp only; omega) _
      · exact ownsRow_setCell_below (ownsRow_setCell_below (ownsRow_setCell_below (ownsRow_setCell_below (oB) (by simp only; omega) _) (by simp only; omega) _) (by simp only; omega) _) (by simp only; omega) _
      · exact ownsRow_setCell_below (ownsRow_setCell_below (ownsRow_setCell_below (ownsRow_setCell_below (oC) (by simp only; omega) _) (by simp only; omega) _) (by simp only; omega) _) (by simp only; omega) _
      · exact ownsRow_setCell_below (ownsRow_setCell_below (ownsRow_setCell_below (ownsRow_setCell_below (oD) (by simp only; omega) _) (by simp only; omega) _) (by simp only; omega) _) (by simp only; omega) _
    · have HE : evE xs n band = 2 := by unfold evE; rw [h1, if_pos rfl, if_neg h2]
      have F : Hid (evE xs n band = 2 ∧ evMn pX xs n band = [] ∧ evMx pX xs n band = [] ∧ evMn pY xs n band = [] ∧ evMx pY xs n band = []) := by unfold Hid evMn evMx; rw [HE]; exact ⟨rfl, rfl, rfl, rfl, rfl⟩
      clear HE
      obtain ⟨_, hm1, hm2⟩ := featsOk_bd h1
      rw [hl.out] at hm1 hm2
      cases h3 : inB 1 72 n with
      | false =>
        clear h2
        go_enter Try.func17, Try.ntmps17
        go_wp2_with fail
        generalize w.alloc (.cells #[.slice none 0 0, .slice none 0 0, .slice none 0 0, .slice none 0 0] 35) = v at *
        with_reducible refine (l09Ok_any _ _ _ xs _ (hr.on hbv) hm).mono ?_
        rintro e w1 ⟨rfl, hbw1⟩
        rw [H1.out]
        replace KO := KO.on hbw1
        replace hbv := below_on hbw1 hbv
        have d0 := KO.cell 0
        have d1 := KO.cell 1
        have d2 := KO.cell 2
        have d3 := KO.cell 3
        simp only [List.getElem?_toArray, List.getElem?_cons_succ, List.getElem?_cons_zero] at d0 d1 d2 d3
        have f0 := KO.frozen 0
        have f1 := KO.frozen 1
        have f2 := KO.frozen 2
        have f3 := KO.frozen 3
        have zO := KO.lt
        go_wp2_with (first | (go_at_call 53; with_reducible refine (l00In_any _ _ _ _).mono ?_; rintro e w' ⟨rfl, rfl⟩))
        go_wp2
        rw [F.out.1, F.out.2.1, F.out.2.2.1, F.out.2.2.2.1, F.out.2.2.2.2]
        exact bodyPost_ret (v := .tuple #[.agg #[.slice none 0 0, .slice none 0 0, .slice none 0 0, .slice none 0 0], .int .i64 2]) (by simp [results, Try.results17, go_sem, d0, d1, d2, d3]) rfl ⟨none, none, none, none, 0, 0, 0, 0, 0, rfl, R4L.nil _ _, by decide, (by repeat (first | exact Below.refl _ _ | assumption | refine Below.drew ?_ | refine below_drewN ?_ _ | refine Below.alloc ?_ (by first | omega | (simp <;> omega)) _ | refine Below.setCell ?_ (by first | omega | (simp <;> omega)) _))⟩
      | true =>
        rw [h3, Bool.true_and] at h2
        obtain ⟨n0, n1⟩ := inB_iff.1 h3
        obtain ⟨N, rfl⟩ := Int.eq_ofNat_of_zero_le (show 0 ≤ n by omega)
        have h4 : bandOk N m band = false := by rw [Int.toNat_natCast, hl.out] at h2; simpa using h2
        have H3 := Lib.hid h3
        have H4 := Lib.hid h4
        clear h2 h3 h4
        go_enter Try.func17, Try.ntmps17
        go_wp2_with fail
        generalize w.alloc (.cells #[.slice none 0 0, .slice none 0 0, .slice none 0 0, .slice none 0 0] 35) = v at *
        with_reducible refine (l09Ok_any _ _ _ xs _ (hr.on hbv) hm).mono ?_
        rintro e w1 ⟨rfl, hbw1⟩
        rw [H1.out]
        replace KO := KO.on hbw1
        replace hbv := below_on hbw1 hbv
        go_wp2_with (go_at_call 53; with_reducible refine (l00In_any _ _ _ _).mono ?_; rintro e w' ⟨rfl, rfl⟩; rw [H3.out])
        with_reducible refine (l10Band_any N m _ _ (by omega) (by omega)).mono ?_
        rintro e w9 ⟨rfl, hbw9⟩
        rw [H4.out]
        replace KO := KO.on hbw9
        replace hbv := below_on hbw9 hbv
        have d0 := KO.cell 0
        have d1 := KO.cell 1
        have d2 := KO.cell 2
        have d3 := KO.cell 3
        simp only [List.getElem?_toArray, List.getElem?_cons_succ, List.getElem?_cons_zero] at d0 d1 d2 d3
        have f0 := KO.frozen 0
        have f1 := KO.frozen 1
        have f2 := KO.frozen 2
        have f3 := KO.frozen 3
        have zO := KO.lt
        go_wp2
        rw [F.out.1, F.out.2.1, F.out.2.2.1, F.out.2.2.2.1, F.out.2.2.2.2]
        exact bodyPost_ret (v := .tuple #[.agg #[.slice none 0 0, .slice none 0 0, .slice none 0 0, .slice none 0 0], .int .i64 2]) (by simp [results, Try.results17, go_sem, d0, d1, d2, d3]) rfl ⟨none, none, none, none, 0, 0, 0, 0, 0, rfl, R4L.nil _ _, by decide, (by repeat (first | exact Below.refl _ _ | assumption | refine Below.drew ?_ | refine below_drewN ?_ _ | refine Below.alloc ?_ (by first | omega | (simp <;> omega)) _ | refine Below.setCell ?_ (by first | omega | (simp <;> omega)) _))⟩
end Go.Proofs.Ytfbcnojnpjbghaa
