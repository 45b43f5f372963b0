/- Slices of slices of numbers: how they are read. -/
import Derived.Test.YtammapaockmjkaaNl
namespace Go.Proofs.Ytammapaockmjkaa
open Go.ChangeShapes Go.WideShapes Go.ChangeAt Go.RowKit Go.Deep Go.Joins
/-- The headers of n rows, and what each row holds. -/
def MLh (w : World) (B : Nat) (hs : List HS) (xs : List (List Int)) : Prop := ∀ (k : Nat) (h : HS) (x : List Int), hs[k]? = some h → xs[k]? = some x → RdL c1 1 w B h.1 h.2.1 h.2.2 x
def ML (w : World) (B : Nat) (A : Option Addr) (n c : Nat) (xs : List (List Int)) : Prop := ∃ hs : List HS, RdL cS 1 w B A n c hs ∧ xs.length = n ∧ MLh w B hs xs
section
variable {w w' : World} {B B' : Nat} {A : Option Addr} {n c : Nat} {xs : List (List Int)} {hs : List HS}
theorem MLh.below (h : MLh w B hs xs) (hb : Below B w w') : MLh w' B hs xs := fun k q x h1 h2 => (h k q x h1 h2).below hb
theorem MLh.more (h : MLh w B hs xs) (hB : B ≤ B') : MLh w B' hs xs := fun k q x h1 h2 => (h k q x h1 h2).more hB
theorem MLh.on (h : MLh w w.heap.size hs xs) (hb : Below w.heap.size w w') : MLh w' w'.heap.size hs xs := (h.below hb).more hb.size
theorem ML.below (h : ML w B A n c xs) (hb : Below B w w') : ML w' B A n c xs := by obtain ⟨hs, h1, h2, h3⟩ := h; exact ⟨hs, h1.below hb, h2, h3.below hb⟩
theorem ML.more (h : ML w B A n c xs) (hB : B ≤ B') : ML w B' A n c xs := by obtain ⟨hs, h1, h2, h3⟩ := h; exact ⟨hs, h1.more hB, h2, h3.more hB⟩
theorem ML.on (h : ML w w.heap.size A n c xs) (hb : Below w.heap.size w w') : ML w' w'.heap.size A n c xs := (h.below hb).more hb.size
theorem ML.drew (h : ML w B A n c xs) : ML w.drew B A n c xs := h
theorem ML.drewN (h : ML w B A n c xs) (k : Nat) : ML (w.drewN k) B A n c xs := h
theorem ML.len (h : ML w B A n c xs) : xs.length = n := by obtain ⟨_, _, h2, _⟩ := h; exact h2
theorem ML.cap (h : ML w B A n c xs) : n ≤ c := by obtain ⟨_, h1, _, _⟩ := h; exact h1.cap
theorem ML.capm (h : ML w B A n c xs) : c ≤ maxLen := by obtain ⟨_, h1, _, _⟩ := h; exact h1.capm
theorem ML.at_ (h : ML w B A n c xs) {k : Nat} (hk : k < n) :
    ∃ b off A' n' c' x, A = some ⟨b, off, none⟩ ∧ b < B ∧ Hid (xs[k]? = some x) ∧ w.cell? ⟨b, off + k, none⟩ = some (.slice A' n' c') ∧ RdL c1 1 w B A' n' c' x := by
  obtain ⟨hs, h1, h2, h3⟩ := h
  obtain ⟨b, off, q, e, hb, hx, hc⟩ := RdL.at_ (f := cS) (s := 1) cS_len h1 hk
  have hk2 : xs[k]? = some (xs[k]'(by omega)) := List.getElem?_eq_getElem (by omega)
  refine ⟨b, off, q.1, q.2.1, q.2.2, _, e, hb, hk2, ?_, h3 k q _ hx hk2⟩
  have := hc 0 (.slice q.1 q.2.1 q.2.2) (by decide) rfl
  simpa using this
end
/-- The whole measure of a slice of slices. -/
def totM (xs : List (List Int)) : Nat := xs.length + (xs.map List.length).sum
def preM (xs : List (List Int)) (k : Nat) : Nat := ((xs.take k).map List.length).sum
theorem preM_step {xs : List (List Int)} {k : Nat} {x : List Int} (h : xs[k]? = some x) : preM xs (k + 1) = preM xs k + x.length := by
  unfold preM; rw [take_succ_of h]; simp
theorem preM_all {xs : List (List Int)} {k : Nat} (h : xs.length ≤ k) : preM xs k = (xs.map List.length).sum := by unfold preM; rw [List.take_of_length_le h]
theorem preM_le (xs : List (List Int)) (k : Nat) : preM xs k ≤ (xs.map List.length).sum := by
  unfold preM
  have h : xs.map List.length = (xs.take k).map List.length ++ (xs.drop k).map List.length := by rw [← List.map_append, List.take_append_drop]
  rw [h, List.sum_append]; omega
theorem totM_at {xs : List (List Int)} {k : Nat} {x : List Int} (h : xs[k]? = some x) : xs.length + preM xs k + x.length ≤ totM xs := by
  have h1 := preM_le xs (k + 1); rw [preM_step h] at h1; unfold totM; omega
theorem preM_zero (xs : List (List Int)) : preM xs 0 = 0 := rfl
def szM (xs : List (List Int)) (left : Int) : Int := if (totM xs : Int) ≤ left then left - totM xs else -1
theorem szM_yes {xs : List (List Int)} {left : Int} (h : (totM xs : Int) ≤ left) : szM xs left = left - totM xs := if_pos h
theorem szM_no {xs : List (List Int)} {left : Int} (h : left < totM xs) : szM xs left = -1 := if_neg (by omega)
/-- Rows of their own. -/
def MLo (w : World) (base : Nat) (e : TypeId) (hs : List HS) (xs : List (List Int)) : Prop := ∀ (k : Nat) (h : HS) (x : List Int), hs[k]? = some h → xs[k]? = some x → x.length = h.2.1 ∧ w.ownsRow base e 1 (.slice h.1 h.2.1 h.2.2) h.2.1 (x.flatMap c1)
theorem MLo.on {w w' : World} {base : Nat} {e : TypeId} {hs : List HS} {xs : List (List Int)} (h : MLo w base e hs xs) (hb : Below w.heap.size w w') : MLo w' base e hs xs := fun k q x h1 h2 => ⟨(h k q x h1 h2).1, own_below (h k q x h1 h2).2 hb⟩
theorem MLo.ml {w : World} {base : Nat} {e : TypeId} {hs : List HS} {xs : List (List Int)} (h : MLo w base e hs xs) : MLh w w.heap.size hs xs := fun k q x h1 h2 => RdL.of_own (h k q x h1 h2).1 (h k q x h1 h2).2
theorem MLo.mono {w : World} {base base' : Nat} {e : TypeId} {hs : List HS} {xs : List (List Int)} (h : MLo w base e hs xs) (hb : base' ≤ base) : MLo w base' e hs xs := fun k q x h1 h2 => ⟨(h k q x h1 h2).1, own_mono (h k q x h1 h2).2 hb⟩
theorem ml_own {w : World} {base base' : Nat} {e e' : TypeId} {A : Option Addr} {n c : Nat} {hs : List HS} {xs : List (List Int)} (ho : w.ownsRow base e 1 (.slice A n c) n (hs.flatMap cS)) (hl : hs.length = n) (hx : xs.length = n) (h : MLo w base' e' hs xs) : ML w w.heap.size A n c xs :=
  ⟨hs, RdL.of_own hl ho, hx, h.ml⟩
theorem MLo.far {w : World} {base : Nat} {e : TypeId} {hs : List HS} {xs : List (List Int)} (h : MLo w base e hs xs) {p : Addr} (hp : ∀ (k : Nat) (q : HS) (a : Addr), hs[k]? = some q → q.1 = some a → a.block ≠ p.block) (u : Value) : MLo (w.setCell p u) base e hs xs := fun k q x h1 h2 =>
  ⟨(h k q x h1 h2).1, by
    refine ownsRow_setCell_other (h k q x h1 h2).2 (fun e9 => ?_) u
    obtain ⟨A, m, c⟩ := q
    cases A with
    | none => simp [Value.ownBlock] at e9
    | some a => simp [Value.ownBlock] at e9; exact hp k _ a h1 rfl e9⟩
theorem MLo.top {w : World} {base : Nat} {e : TypeId} {hs : List HS} {xs : List (List Int)} (h : MLo w base e hs xs) (hl : hs.length = xs.length) (i : Nat) (q : HS) (a : Addr) (hi : hs[i]? = some q) (ha : q.1 = some a) : base ≤ a.block ∧ a.block < w.heap.size := by
  have hlt : i < xs.length := by have := (List.getElem?_eq_some_iff.1 hi).1; omega
  exact (h i q _ hi (List.getElem?_eq_getElem hlt)).2.lt a.block (by rw [ha]; rfl)
theorem MLo.top' {w : World} {base : Nat} {e : TypeId} {hs : List HS} {xs : List (List Int)} (h : MLo w base e hs xs) (hl : hs.length ≤ xs.length) (i : Nat) (q : HS) (a : Addr) (hi : hs[i]? = some q) (ha : q.1 = some a) : base ≤ a.block ∧ a.block < w.heap.size := by
  have hlt : i < xs.length := by have := (List.getElem?_eq_some_iff.1 hi).1; omega
  exact (h i q _ hi (List.getElem?_eq_getElem hlt)).2.lt a.block (by rw [ha]; rfl)
theorem MLo.kept {w w' : World} {base : Nat} {e : TypeId} {hs : List HS} {xs : List (List Int)} {r : Option Nat} (h : MLo w base e hs xs) (hg : w.grownBy w' r) (hr : ∀ q, r = some q → q < base) : MLo w' base e hs xs := fun k q x h1 h2 =>
  ⟨(h k q x h1 h2).1, (h k q x h1 h2).2.kept hg (own_ne (h k q x h1 h2).2 hr)⟩
theorem MLo.snoc {w : World} {base : Nat} {e : TypeId} {hs : List HS} {xs : List (List Int)} {k : Nat} {q : HS} {x : List Int} (h : MLo w base e hs xs) (hl : hs.length = k) (hx : xs[k]? = some x) (h1 : x.length = q.2.1) (h2 : w.ownsRow base e 1 (.slice q.1 q.2.1 q.2.2) q.2.1 (x.flatMap c1)) : MLo w base e (hs ++ [q]) xs := by
  intro j q' x' hq hx'
  by_cases hj : j < k
  · rw [List.getElem?_append_left (by omega)] at hq; exact h j q' x' hq hx'
  · have hjk : j = k := by have := (List.getElem?_eq_some_iff.1 hq).1; simp at this; omega
    subst hjk
    rw [List.getElem?_append_right (by omega)] at hq
    simp [hl] at hq
    rw [hx] at hx'; cases hx'; subst hq
    exact ⟨h1, h2⟩
section
variable {H : Type} {enc : TypeId × Value → H} {P : Program} {w : World} {base : Nat} {spare : Nat → Bool} {held : Bool}
def R1s (w : World) (cs : List Value) (x : List Int) : Prop := ∃ A n c, cs = [.slice A n c] ∧ RdL c1 1 w w.heap.size A n c x ∧ ∀ p ∈ x, I64 p
theorem ml_of {A : Option Addr} {n c : Nat} {xs : List (List Int)} (h : SL (R1s w) 1 w w.heap.size A n c xs) : ML w w.heap.size A n c xs ∧ ∀ x ∈ xs, ∀ p ∈ x, I64 p := by
  obtain ⟨h1, h2, h3, h4⟩ := h
  obtain ⟨hs, hl, hk⟩ := list_choose (α := HS) (p := fun k q => ∃ x b off, xs[k]? = some x ∧ A = some ⟨b, off, none⟩ ∧ b < w.heap.size ∧ w.cell? ⟨b, off + k, none⟩ = some (.slice q.1 q.2.1 q.2.2) ∧ RdL c1 1 w w.heap.size q.1 q.2.1 q.2.2 x) n (fun k hk => by
    obtain ⟨b, off, e, hb, hq⟩ := h4 (by omega)
    have hx : xs[k]? = some (xs[k]'(by omega)) := List.getElem?_eq_getElem (by omega)
    obtain ⟨cs, _, hc, A', n', c', rfl, hr, _⟩ := hq k _ hx
    refine ⟨(A', n', c'), _, b, off, hx, e, hb, ?_, hr⟩
    have := hc 0 _ rfl
    simpa using this)
  refine ⟨⟨hs, rdl_mk cS_len hl h2 h3 (fun hpos => ?_), h1, fun k q x hq hx => ?_⟩, fun x hx => ?_⟩
  · obtain ⟨b, off, e, hb, _⟩ := h4 hpos
    refine ⟨b, off, e, hb, fun k q hq j u hu => ?_⟩
    obtain ⟨x, b', off', _, e', _, hc, _⟩ := hk k q hq
    rw [e] at e'; cases e'
    match j, hu with
    | 0, hu => cases hu; simpa using hc
  · obtain ⟨x', _, _, hx', _, _, _, hr⟩ := hk k q hq
    rw [hx] at hx'; cases hx'
    exact hr
  · obtain ⟨k, hk', rfl⟩ := List.mem_iff_getElem.1 hx
    obtain ⟨b, off, e, hb, hq⟩ := h4 (by omega)
    obtain ⟨cs, _, hc, A', n', c', _, _, ho⟩ := hq k _ (List.getElem?_eq_getElem hk')
    exact ho
theorem el_ints {t e : TypeId} (ht : P.underlying t = some (.slice e)) (hi : P.underlying e = some (.int .i64)) (hC : P.cellsOf e = 1)
    (fuel : Nat) (cs : List Value) (x : DataW H × List MemPlace) (h : DataW.trod enc P w base spare held fuel t cs = some x) : ∃ a, R1s w cs a := by
  obtain ⟨A, n, c, xs, h1, h2, h3⟩ := open_ints ht hi hC h
  exact ⟨xs, A, n, c, h1, h2, h3⟩
end
end Go.Proofs.Ytammapaockmjkaa
