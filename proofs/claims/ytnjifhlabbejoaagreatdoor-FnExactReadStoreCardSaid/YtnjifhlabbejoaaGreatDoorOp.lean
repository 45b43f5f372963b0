/- How the arguments of a law are opened: numbers, small structs by value, slices of small structs, as they read before the call. -/
import Derived.Test.YtnjifhlabbejoaaGreatDoorPl
import Derived.Deep.Slices
import Derived.Deep.Fields
import Derived.ChangeSame
import Derived.Lib.SmallJoins
import Derived.OpenShut
namespace Go.Proofs.YtnjifhlabbejoaaGreatDoor
open Go.ChangeShapes Go.WideShapes Go.ChangeAt Go.RowKit Go.Deep Go.Joins

theorem i64_of {n : Int} (h : (Lit.int .i64 n).wf = true) : I64 n := by
  unfold I64
  simpa [Lit.wf, IntKind.min, IntKind.max, IntKind.signed, IntKind.bits] using h
theorem add_add' (a : Addr) (i j : Nat) (h : a.spot = none) : a.add (i + j) = ⟨a.block, a.off + i + j, none⟩ := by
  obtain ⟨b, off, sp⟩ := a
  simp only at h
  subst h
  unfold Addr.add
  split <;> simp_all <;> omega

section
variable {H : Type} {enc : TypeId × Value → H} {P : Program} {w : World} {base : Nat} {spare : Nat → Bool} {held : Bool}
/-- A slice of structs of s int64 fields, as it reads: its cells are numbers, each of them an int64. -/
theorem open_rows {t e e0 : TypeId} {fs : Array Field} {fuel s : Nat} {v : Value} {x : DataW H × List MemPlace} (ht : P.underlying t = some (.slice e)) (he : P.underlying e = some (.struct fs))
    (hone : oneCellFields P fs = true) (hs : fs.size = s) (hC : P.cellsOf e = s) (hty : ∀ (j : Nat) (f : Field), fs[j]? = some f → f.type = e0) (hi : P.underlying e0 = some (.int .i64)) (hs0 : 0 < s)
    (h : DataW.trod enc P w base spare held fuel t [v] = some x) :
    ∃ (A : Option Addr) (n c : Nat) (g : Nat → Nat → Int), v = .slice A n c ∧ n ≤ c ∧ c ≤ maxLen ∧ (∀ i j, i < n → j < s → I64 (g i j)) ∧
      (0 < n → ∃ b off, A = some ⟨b, off, none⟩ ∧ b < w.heap.size ∧ ∀ i j, i < n → j < s → w.cell? ⟨b, off + i * s + j, none⟩ = some (.int .i64 (g i j))) := by
  subst hs
  rcases open_slice ht h with ⟨h0, _⟩ | ⟨a, len, cap, m, n, D, Pl, hcs, hb, hl, hm, hmm, hx, hel⟩
  · simp only [List.cons.injEq, and_true] at h0
    exact ⟨none, 0, 0, fun _ _ => 0, h0, Nat.le_refl _, by simp [maxLen], fun i j h => absurd h (by omega), fun h => absurd h (by omega)⟩
  · simp only [List.cons.injEq, and_true] at hcs
    have hlm : len ≤ m := by rw [hmm]; split <;> omega
    have key : ∀ i j, i < len → j < fs.size → ∃ z : Int, w.cell? (a.add (i * fs.size + j)) = some (.int .i64 z) ∧ I64 z := by
      intro i j hi' hj
      obtain ⟨cs', hc, ht'⟩ := hel i (by omega)
      rw [hC] at hc
      obtain ⟨ys, n', hn', hy, hlen, hyl, hf⟩ := DataW.trod_struct he ht'
      obtain ⟨_, hcl, hat⟩ := World.cells?_some hc
      have hfj : fs[j]? = some (fs[j]'hj) := Array.getElem?_eq_getElem hj
      obtain ⟨ho, hk⟩ := hone_of hone j _ hfj
      have h1 := hf j _ hfj
      rw [ho, hk, hty j _ hfj, List.getElem?_eq_getElem (by omega)] at h1
      obtain ⟨z, hz, _, hw⟩ := DataW.trod_int hi h1
      refine ⟨z, ?_, i64_of hw⟩
      have hcell := hat j hj
      rw [← Go.Deep.add_add, hcell]
      rw [List.drop_eq_getElem_cons (by omega)] at hz
      simp only [List.take_succ_cons, List.take_zero, List.cons.injEq, and_true] at hz
      rw [List.getElem?_eq_getElem (by omega), hz]
    let g : Nat → Nat → Int := fun i j => match w.cell? (a.add (i * fs.size + j)) with | some (.int _ z) => z | _ => 0
    have hg : ∀ i j, i < len → j < fs.size → w.cell? (a.add (i * fs.size + j)) = some (.int .i64 (g i j)) ∧ I64 (g i j) := by
      intro i j h1 h2
      obtain ⟨z, hz, hw⟩ := key i j h1 h2
      have : g i j = z := by simp only [g, hz]
      rw [this]; exact ⟨hz, hw⟩
    refine ⟨some a, len, cap, g, hcs, hl, hm, fun i j h1 h2 => (hg i j h1 h2).2, fun hpos => ?_⟩
    have h00 := (hg 0 0 hpos hs0).1
    have hsp : a.spot = none := by
      have := World.cell?_spot h00
      unfold Addr.add at this
      split at this <;> simp_all
    have hblk : a.block < w.heap.size := by
      have := World.block_lt_of_cell? (w := w) (a := a.add (0 * fs.size + 0)) h00
      simpa [Addr.add] using this
    refine ⟨a.block, a.off, ?_, hblk, fun i j h1 h2 => ?_⟩
    · obtain ⟨b, off, sp⟩ := a; simp only at hsp; subst hsp; rfl
    · rw [← add_add' a _ _ hsp]; exact (hg i j h1 h2).1
end

/-- From cells by element and field to the flat row. -/
theorem rdl_mk {α : Type} {f : α → List Value} {w : World} {B s n c : Nat} {A : Option Addr} {xs : List α} (hf : ∀ x, (f x).length = s) (hl : xs.length = n) (hn : n ≤ c) (hc : c ≤ maxLen)
    (h : 0 < n → ∃ b off, A = some ⟨b, off, none⟩ ∧ b < B ∧ ∀ k x, xs[k]? = some x → ∀ j u, (f x)[j]? = some u → w.cell? ⟨b, off + k * s + j, none⟩ = some u) : RdL f s w B A n c xs := by
  refine ⟨hl, by rw [flat_len hf, hl], hn, hc, fun hpos => ?_⟩
  obtain ⟨b, off, e, hb, hk⟩ := h hpos
  refine ⟨b, off, e, hb, fun i u hu => ?_⟩
  have hi : i < n * s := by have := (List.getElem?_eq_some_iff.1 hu).1; rw [flat_len hf, hl] at this; exact this
  have hs : 0 < s := Nat.pos_of_ne_zero (by rintro rfl; omega)
  have hq : i / s < n := Nat.div_lt_of_lt_mul (by rw [Nat.mul_comm]; exact hi)
  have hdm : i / s * s + i % s = i := by rw [Nat.mul_comm]; exact Nat.div_add_mod i s
  have hx : xs[i / s]? = some (xs[i / s]'(by omega)) := List.getElem?_eq_getElem (by omega)
  have hr : i % s < s := Nat.mod_lt _ hs
  have h2 := flat_get hf xs (i / s) (i % s) _ hx hr
  rw [hdm, hu] at h2
  have := hk (i / s) _ hx (i % s) u h2.symm
  rw [Nat.add_assoc, hdm] at this
  exact this

section
variable {H : Type} {enc : TypeId × Value → H} {P : Program} {w : World} {base : Nat} {spare : Nat → Bool} {held : Bool}
theorem open_rows2 {t e e0 : TypeId} {f0 f1 : Field} {fuel : Nat} {v : Value} {x : DataW H × List MemPlace} (ht : P.underlying t = some (.slice e)) (he : P.underlying e = some (.struct #[f0, f1]))
    (hone : oneCellFields P #[f0, f1] = true) (hC : P.cellsOf e = 2) (h0 : f0.type = e0) (h1 : f1.type = e0) (hi : P.underlying e0 = some (.int .i64))
    (h : DataW.trod enc P w base spare held fuel t [v] = some x) : ∃ (A : Option Addr) (n c : Nat) (xs : List T2), v = .slice A n c ∧ RdL c2 2 w w.heap.size A n c xs ∧ ∀ x ∈ xs, ok2 x := by
  obtain ⟨A, n, c, g, hv, hn, hc, hw, hcell⟩ := open_rows (s := 2) ht he hone rfl hC (e0 := e0) (fun j f hj => by match j, hj with | 0, hj => cases hj; exact h0 | 1, hj => cases hj; exact h1) hi (by decide) h
  refine ⟨A, n, c, (List.range n).map fun i => (g i 0, g i 1), hv, rdl_mk c2_len (by simp) hn hc (fun hpos => ?_), ?_⟩
  · obtain ⟨b, off, e, hb, hk⟩ := hcell hpos
    refine ⟨b, off, e, hb, fun k x hx j u hu => ?_⟩
    have hkn : k < n := by have := (List.getElem?_eq_some_iff.1 hx).1; simpa using this
    simp [hkn] at hx
    subst hx
    match j, hu with
    | 0, hu => cases hu; exact hk k 0 hkn (by decide)
    | 1, hu => cases hu; exact hk k 1 hkn (by decide)
  · intro x hx
    obtain ⟨i, hi', rfl⟩ := List.mem_map.1 hx
    have hin : i < n := by simpa using hi'
    exact ⟨hw i 0 hin (by decide), hw i 1 hin (by decide)⟩
theorem open_rows3 {t e e0 : TypeId} {f0 f1 f2 : Field} {fuel : Nat} {v : Value} {x : DataW H × List MemPlace} (ht : P.underlying t = some (.slice e)) (he : P.underlying e = some (.struct #[f0, f1, f2]))
    (hone : oneCellFields P #[f0, f1, f2] = true) (hC : P.cellsOf e = 3) (h0 : f0.type = e0) (h1 : f1.type = e0) (h2 : f2.type = e0) (hi : P.underlying e0 = some (.int .i64))
    (h : DataW.trod enc P w base spare held fuel t [v] = some x) : ∃ (A : Option Addr) (n c : Nat) (xs : List T3), v = .slice A n c ∧ RdL c3 3 w w.heap.size A n c xs ∧ ∀ x ∈ xs, ok3 x := by
  obtain ⟨A, n, c, g, hv, hn, hc, hw, hcell⟩ := open_rows (s := 3) ht he hone rfl hC (e0 := e0) (fun j f hj => by match j, hj with | 0, hj => cases hj; exact h0 | 1, hj => cases hj; exact h1 | 2, hj => cases hj; exact h2) hi (by decide) h
  refine ⟨A, n, c, (List.range n).map fun i => (g i 0, g i 1, g i 2), hv, rdl_mk c3_len (by simp) hn hc (fun hpos => ?_), ?_⟩
  · obtain ⟨b, off, e, hb, hk⟩ := hcell hpos
    refine ⟨b, off, e, hb, fun k x hx j u hu => ?_⟩
    have hkn : k < n := by have := (List.getElem?_eq_some_iff.1 hx).1; simpa using this
    simp [hkn] at hx
    subst hx
    match j, hu with
    | 0, hu => cases hu; exact hk k 0 hkn (by decide)
    | 1, hu => cases hu; exact hk k 1 hkn (by decide)
    | 2, hu => cases hu; exact hk k 2 hkn (by decide)
  · intro x hx
    obtain ⟨i, hi', rfl⟩ := List.mem_map.1 hx
    have hin : i < n := by simpa using hi'
    exact ⟨hw i 0 hin (by decide), hw i 1 hin (by decide), hw i 2 hin (by decide)⟩
theorem open_vec3 {r : Reach} {b0 : Nat} {t e0 : TypeId} {f0 f1 f2 : Field} {v : Value} {d : DataW H} {p : List MemPlace} (hs : P.underlying t = some (.struct #[f0, f1, f2])) (hone : oneCellFields P #[f0, f1, f2] = true) (hC : P.cellsOf t = 3)
    (h0 : f0.type = e0) (h1 : f1.type = e0) (h2 : f2.type = e0) (hi : P.underlying e0 = some (.int .i64)) (hv : Value.okWide P w r b0 t v) (h : DataW.Trod enc P w base spare held t v d p) :
    ∃ x y z : Int, v = .agg #[.int .i64 x, .int .i64 y, .int .i64 z] ∧ ok3 (x, y, z) := by
  obtain ⟨v0, v1, v2, y0, y1, y2, n, rfl, _, _, t0, t1, t2⟩ := open_agg3 hs hone hC hv h
  rw [h0] at t0; rw [h1] at t1; rw [h2] at t2
  obtain ⟨a, ea, _, wa⟩ := DataW.trod_int hi t0
  obtain ⟨b, eb, _, wb⟩ := DataW.trod_int hi t1
  obtain ⟨c, ec, _, wc⟩ := DataW.trod_int hi t2
  simp only [List.cons.injEq, and_true] at ea eb ec
  subst ea eb ec
  exact ⟨a, b, c, rfl, i64_of wa, i64_of wb, i64_of wc⟩
end
end Go.Proofs.YtnjifhlabbejoaaGreatDoor
