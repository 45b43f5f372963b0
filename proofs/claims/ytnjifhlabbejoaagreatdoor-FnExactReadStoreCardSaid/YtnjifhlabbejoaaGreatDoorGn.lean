/- Slices whose elements each read as something: opened, and turned into flat rows where the elements are numbers. -/
import Derived.Test.YtnjifhlabbejoaaGreatDoorOp
import Derived.Test.YtnjifhlabbejoaaGreatDoorRows
import Derived.ChangeMaps5
namespace Go.Proofs.YtnjifhlabbejoaaGreatDoor
open Go.ChangeShapes Go.WideShapes Go.ChangeAt Go.RowKit Go.Deep Go.Joins
/-- A slice each of whose elements, s cells, reads as something. -/
def SL {α : Type} (R : List Value → α → Prop) (s : Nat) (w : World) (B : Nat) (A : Option Addr) (n c : Nat) (xs : List α) : Prop :=
  xs.length = n ∧ n ≤ c ∧ c ≤ maxLen ∧ (0 < n → ∃ b off, A = some ⟨b, off, none⟩ ∧ b < B ∧ ∀ k x, xs[k]? = some x → ∃ cs, cs.length = s ∧ (∀ j u, cs[j]? = some u → w.cell? ⟨b, off + k * s + j, none⟩ = some u) ∧ R cs x)
theorem list_choose {α : Type} [Inhabited α] {p : Nat → α → Prop} (n : Nat) (h : ∀ i, i < n → ∃ a, p i a) : ∃ xs : List α, xs.length = n ∧ ∀ i x, xs[i]? = some x → p i x := by
  refine ⟨(List.range n).map fun i => if hi : i < n then (h i hi).choose else default, by simp, fun i x hx => ?_⟩
  have hi : i < n := by have := (List.getElem?_eq_some_iff.1 hx).1; simpa using this
  simp [hi] at hx
  subst hx
  exact (h i hi).choose_spec
section
variable {H : Type} {enc : TypeId × Value → H} {P : Program} {w : World} {base : Nat} {spare : Nat → Bool} {held : Bool}
theorem open_sl {α : Type} [Inhabited α] {R : List Value → α → Prop} {t e : TypeId} {fuel s : Nat} {cs : List Value} {x : DataW H × List MemPlace} (ht : P.underlying t = some (.slice e)) (hC : P.cellsOf e = s) (hs0 : 0 < s)
    (hel : ∀ fuel cs x, DataW.trod enc P w base spare held fuel e cs = some x → ∃ a, R cs a)
    (h : DataW.trod enc P w base spare held fuel t cs = some x) : ∃ (A : Option Addr) (n c : Nat) (xs : List α), cs = [.slice A n c] ∧ SL R s w w.heap.size A n c xs := by
  rcases open_slice ht h with ⟨h0, _⟩ | ⟨a, len, cap, m, n, D, Pl, hcs, hb, hl, hm, hmm, hx, hel'⟩
  · exact ⟨none, 0, 0, [], h0, rfl, Nat.le_refl _, by simp [maxLen], fun h => absurd h (by omega)⟩
  · have hlm : len ≤ m := by rw [hmm]; split <;> omega
    obtain ⟨xs, hxl, hxs⟩ := list_choose (α := α) (p := fun i a' => ∃ cs', w.cells? base (a.add (i * s)) s = some cs' ∧ R cs' a') len (fun i hi => by
      obtain ⟨cs', hc, ht'⟩ := hel' i (by omega)
      rw [hC] at hc
      obtain ⟨a', ha'⟩ := hel _ _ _ ht'
      exact ⟨a', cs', hc, ha'⟩)
    refine ⟨some a, len, cap, xs, hcs, hxl, hl, hm, fun hpos => ?_⟩
    have hspot : ∀ i, i < len → ∃ u, w.cell? (a.add (i * s + 0)) = some u := by
      intro i hi
      obtain ⟨cs', hc, _⟩ := hxs i _ (List.getElem?_eq_getElem (by omega))
      obtain ⟨_, hcl, hat⟩ := World.cells?_some hc
      have := hat 0 hs0
      rw [← Go.Deep.add_add, this]
      exact ⟨_, List.getElem?_eq_getElem (by omega)⟩
    obtain ⟨u0, h00⟩ := hspot 0 hpos
    have hsp : a.spot = none := by
      have := World.cell?_spot h00
      unfold Addr.add at this
      split at this <;> simp_all
    have hblk : a.block < w.heap.size := by
      have := World.block_lt_of_cell? (w := w) (a := a.add (0 * s + 0)) h00
      simpa [Addr.add] using this
    refine ⟨a.block, a.off, ?_, hblk, fun k x hk => ?_⟩
    · obtain ⟨b, off, sp⟩ := a; simp only at hsp; subst hsp; rfl
    · obtain ⟨cs', hc, hr⟩ := hxs k x hk
      obtain ⟨_, hcl, hat⟩ := World.cells?_some hc
      refine ⟨cs', hcl, fun j u hu => ?_, hr⟩
      have hj : j < s := by have := (List.getElem?_eq_some_iff.1 hu).1; omega
      rw [← add_add' a _ _ hsp, ← Go.Deep.add_add, hat j hj]; exact hu
def R1 (cs : List Value) (z : Int) : Prop := cs = c1 z ∧ I64 z
theorem el_int {e : TypeId} (hi : P.underlying e = some (.int .i64)) (fuel : Nat) (cs : List Value) (x : DataW H × List MemPlace) (h : DataW.trod enc P w base spare held fuel e cs = some x) : ∃ z, R1 cs z := by
  obtain ⟨z, hz, _, hw⟩ := DataW.trod_int hi h
  exact ⟨z, hz, i64_of hw⟩
theorem sl_flat {α : Type} {f : α → List Value} {ok : α → Prop} {s B n c : Nat} {A : Option Addr} {xs : List α} (hf : ∀ x, (f x).length = s) (h : SL (fun cs x => cs = f x ∧ ok x) s w B A n c xs) :
    RdL f s w B A n c xs ∧ ∀ x ∈ xs, ok x := by
  obtain ⟨h1, h2, h3, h4⟩ := h
  refine ⟨rdl_mk hf h1 h2 h3 (fun hpos => ?_), fun x hx => ?_⟩
  · obtain ⟨b, off, e, hb, hk⟩ := h4 hpos
    refine ⟨b, off, e, hb, fun k x hx j u hu => ?_⟩
    obtain ⟨cs, _, hc, rfl, _⟩ := hk k x hx
    exact hc j u hu
  · obtain ⟨k, hk, rfl⟩ := List.mem_iff_getElem.1 hx
    obtain ⟨b, off, e, hb, hk'⟩ := h4 (by omega)
    obtain ⟨cs, _, hc, _, ho⟩ := hk' k _ (List.getElem?_eq_getElem hk)
    exact ho
theorem open_ints {t e : TypeId} {fuel : Nat} {cs : List Value} {x : DataW H × List MemPlace} (ht : P.underlying t = some (.slice e)) (hi : P.underlying e = some (.int .i64)) (hC : P.cellsOf e = 1)
    (h : DataW.trod enc P w base spare held fuel t cs = some x) : ∃ (A : Option Addr) (n c : Nat) (xs : List Int), cs = [.slice A n c] ∧ RdL c1 1 w w.heap.size A n c xs ∧ ∀ x ∈ xs, I64 x := by
  obtain ⟨A, n, c, xs, hv, hs⟩ := open_sl (R := R1) ht hC (by decide) (el_int hi) h
  obtain ⟨h1, h2⟩ := sl_flat (f := c1) (ok := I64) c1_len hs
  exact ⟨A, n, c, xs, hv, h1, h2⟩
end
section
variable {H : Type} {enc : TypeId × Value → H} {W : World} {v : Value} {d : DataW H} {p : List MemPlace} {base : Nat}
/-- A struct whose one field is a slice of structs of three numbers. -/
theorem stroke_parts {H : Type} {enc : TypeId × Value → H} {P : Program} {w : World} {base : Nat} {spare : Nat → Bool} {held : Bool} {r : Reach} {b0 : Nat} {t ts e e0 : TypeId} {f f0 f1 f2 : Field} {v : Value} {d : DataW H} {p : List MemPlace}
    (hs : P.underlying t = some (.struct #[f])) (hft : f.type = ts) (hone1 : oneCellFields P #[f] = true) (hC1 : P.cellsOf t = 1) (ht : P.underlying ts = some (.slice e)) (he : P.underlying e = some (.struct #[f0, f1, f2]))
    (hone : oneCellFields P #[f0, f1, f2] = true) (hC : P.cellsOf e = 3) (h0 : f0.type = e0) (h1 : f1.type = e0) (h2 : f2.type = e0) (hi : P.underlying e0 = some (.int .i64))
    (hv : Value.okWide P w r b0 t v) (h : DataW.Trod enc P w base spare held t v d p) : ∃ (A : Option Addr) (n c : Nat) (xs : List T3), v = .agg #[.slice A n c] ∧ RdL c3 3 w w.heap.size A n c xs ∧ ∀ x ∈ xs, ok3 x := by
  obtain ⟨cs, rfl, hsz⟩ := okWide_struct hs hv
  obtain ⟨c0, rfl⟩ : ∃ c0, cs = #[c0] := by
    have h9 : cs.size = 1 := hsz.trans hC1
    obtain ⟨l⟩ := cs
    match l, h9 with
    | [c0], _ => exact ⟨c0, rfl⟩
  obtain ⟨fuel, hf⟩ := h
  obtain ⟨y0, n, hx, _, h3⟩ := trod_struct1 hs hf
  obtain ⟨o0, k0⟩ := hone_of hone1 0 f rfl
  have h4 : DataW.trod enc P w base spare held n f.type [c0] = some y0 := by simpa [Value.cells, o0, k0] using h3
  rw [hft] at h4
  obtain ⟨A, n, c, xs, e1, r1, g1⟩ := open_rows3 ht he hone hC h0 h1 h2 hi h4
  subst e1
  exact ⟨A, n, c, xs, rfl, r1, g1⟩
set_option maxRecDepth 100000 in
theorem opStr (hv : Value.okWide Tryz.prog W .any base 9 v) (h : DataW.Trod enc Tryz.prog W 0 (fun _ => true) true 9 v d p) : ∃ s : ByteArray, v = .string s ∧ s.size ≤ maxLen := by
  obtain ⟨s, e, _, _, hs⟩ := Go.ChangeMaps.open_string Tryz.underlying9 hv h
  exact ⟨s, e, hs⟩
end
end Go.Proofs.YtnjifhlabbejoaaGreatDoor
