/- Slices of slices of records of three numbers (and slices of structs with one such slice): how they are read. -/
import Derived.Test.YtnjifhlabbejoaaGreatDoorPk
import Derived.Test.YtnjifhlabbejoaaGreatDoorGn
namespace Go.Proofs.YtnjifhlabbejoaaGreatDoor
open Go.ChangeShapes Go.WideShapes Go.ChangeAt Go.RowKit Go.Deep Go.Joins
abbrev HS := Option Addr × Nat × Nat
def cS (h : HS) : List Value := [.slice h.1 h.2.1 h.2.2]
theorem cS_len (h : HS) : (cS h).length = 1 := rfl
theorem oneS (h : HS) : ∀ u ∈ cS h, u.oneCell' = true := by intro u hu; simp [cS] at hu; subst hu; rfl
/-- The headers of n rows, and what each row holds. -/
def NLh (w : World) (B : Nat) (hs : List HS) (xs : List (List T3)) : Prop := ∀ (k : Nat) (h : HS) (x : List T3), hs[k]? = some h → xs[k]? = some x → RdL c3 3 w B h.1 h.2.1 h.2.2 x
def NL (w : World) (B : Nat) (A : Option Addr) (n c : Nat) (xs : List (List T3)) : Prop := ∃ hs : List HS, RdL cS 1 w B A n c hs ∧ xs.length = n ∧ NLh w B hs xs
section
variable {w w' : World} {B B' : Nat} {A : Option Addr} {n c : Nat} {xs : List (List T3)} {hs : List HS}
theorem NLh.below (h : NLh w B hs xs) (hb : Below B w w') : NLh w' B hs xs := fun k q x h1 h2 => (h k q x h1 h2).below hb
theorem NLh.more (h : NLh w B hs xs) (hB : B ≤ B') : NLh w B' hs xs := fun k q x h1 h2 => (h k q x h1 h2).more hB
theorem NLh.on (h : NLh w w.heap.size hs xs) (hb : Below w.heap.size w w') : NLh w' w'.heap.size hs xs := (h.below hb).more hb.size
theorem NL.below (h : NL w B A n c xs) (hb : Below B w w') : NL w' B A n c xs := by obtain ⟨hs, h1, h2, h3⟩ := h; exact ⟨hs, h1.below hb, h2, h3.below hb⟩
theorem NL.more (h : NL w B A n c xs) (hB : B ≤ B') : NL w B' A n c xs := by obtain ⟨hs, h1, h2, h3⟩ := h; exact ⟨hs, h1.more hB, h2, h3.more hB⟩
theorem NL.on (h : NL w w.heap.size A n c xs) (hb : Below w.heap.size w w') : NL w' w'.heap.size A n c xs := (h.below hb).more hb.size
theorem NL.drew (h : NL w B A n c xs) : NL w.drew B A n c xs := h
theorem NL.drewN (h : NL w B A n c xs) (k : Nat) : NL (w.drewN k) B A n c xs := h
theorem NL.len (h : NL w B A n c xs) : xs.length = n := by obtain ⟨_, _, h2, _⟩ := h; exact h2
theorem NL.cap (h : NL w B A n c xs) : n ≤ c := by obtain ⟨_, h1, _, _⟩ := h; exact h1.cap
theorem NL.capm (h : NL w B A n c xs) : c ≤ maxLen := by obtain ⟨_, h1, _, _⟩ := h; exact h1.capm
theorem NL.at_ (h : NL w B A n c xs) {k : Nat} (hk : k < n) :
    ∃ b off A' n' c' x, A = some ⟨b, off, none⟩ ∧ b < B ∧ Hid (xs[k]? = some x) ∧ w.cell? ⟨b, off + k, none⟩ = some (.slice A' n' c') ∧ RdL c3 3 w B A' n' c' x := by
  obtain ⟨hs, h1, h2, h3⟩ := h
  obtain ⟨b, off, q, e, hb, hx, hc⟩ := RdL.at_ (f := cS) (s := 1) cS_len h1 hk
  have hk2 : xs[k]? = some (xs[k]'(by omega)) := List.getElem?_eq_getElem (by omega)
  refine ⟨b, off, q.1, q.2.1, q.2.2, _, e, hb, hk2, ?_, h3 k q _ hx hk2⟩
  have := hc 0 (.slice q.1 q.2.1 q.2.2) (by decide) rfl
  simpa using this
end
/-- The whole measure of a slice of slices. -/
def totL (xs : List (List T3)) : Nat := xs.length + (xs.map List.length).sum
def preL (xs : List (List T3)) (k : Nat) : Nat := ((xs.take k).map List.length).sum
theorem preL_step {xs : List (List T3)} {k : Nat} {x : List T3} (h : xs[k]? = some x) : preL xs (k + 1) = preL xs k + x.length := by
  unfold preL; rw [take_succ_of h]; simp
theorem preL_all {xs : List (List T3)} {k : Nat} (h : xs.length ≤ k) : preL xs k = (xs.map List.length).sum := by unfold preL; rw [List.take_of_length_le h]
theorem preL_le (xs : List (List T3)) (k : Nat) : preL xs k ≤ (xs.map List.length).sum := by
  unfold preL
  have h : xs.map List.length = (xs.take k).map List.length ++ (xs.drop k).map List.length := by rw [← List.map_append, List.take_append_drop]
  rw [h, List.sum_append]; omega
theorem totL_at {xs : List (List T3)} {k : Nat} {x : List T3} (h : xs[k]? = some x) : xs.length + preL xs k + x.length ≤ totL xs := by
  have h1 := preL_le xs (k + 1); rw [preL_step h] at h1; unfold totL; omega
theorem preL_zero (xs : List (List T3)) : preL xs 0 = 0 := rfl
def szV (xs : List (List T3)) (left : Int) : Int := if (totL xs : Int) ≤ left then left - totL xs else -1
theorem szV_yes {xs : List (List T3)} {left : Int} (h : (totL xs : Int) ≤ left) : szV xs left = left - totL xs := if_pos h
theorem szV_no {xs : List (List T3)} {left : Int} (h : left < totL xs) : szV xs left = -1 := if_neg (by omega)
/-- Rows of their own. -/
def NLo (w : World) (base : Nat) (e : TypeId) (hs : List HS) (xs : List (List T3)) : Prop := ∀ (k : Nat) (h : HS) (x : List T3), hs[k]? = some h → xs[k]? = some x → x.length = h.2.1 ∧ w.ownsRow base e 3 (.slice h.1 h.2.1 h.2.2) h.2.1 (x.flatMap c3)
theorem NLo.on {w w' : World} {base : Nat} {e : TypeId} {hs : List HS} {xs : List (List T3)} (h : NLo w base e hs xs) (hb : Below w.heap.size w w') : NLo w' base e hs xs := fun k q x h1 h2 => ⟨(h k q x h1 h2).1, own_below (h k q x h1 h2).2 hb⟩
theorem NLo.nl {w : World} {base : Nat} {e : TypeId} {hs : List HS} {xs : List (List T3)} (h : NLo w base e hs xs) : NLh w w.heap.size hs xs := fun k q x h1 h2 => RdL.of_own (h k q x h1 h2).1 (h k q x h1 h2).2
theorem NLo.mono {w : World} {base base' : Nat} {e : TypeId} {hs : List HS} {xs : List (List T3)} (h : NLo w base e hs xs) (hb : base' ≤ base) : NLo w base' e hs xs := fun k q x h1 h2 => ⟨(h k q x h1 h2).1, own_mono (h k q x h1 h2).2 hb⟩
theorem nl_own {w : World} {base base' : Nat} {e e' : TypeId} {A : Option Addr} {n c : Nat} {hs : List HS} {xs : List (List T3)} (ho : w.ownsRow base e 1 (.slice A n c) n (hs.flatMap cS)) (hl : hs.length = n) (hx : xs.length = n) (h : NLo w base' e' hs xs) : NL w w.heap.size A n c xs :=
  ⟨hs, RdL.of_own hl ho, hx, h.nl⟩
theorem NLo.far {w : World} {base : Nat} {e : TypeId} {hs : List HS} {xs : List (List T3)} (h : NLo w base e hs xs) {p : Addr} (hp : ∀ (k : Nat) (q : HS) (a : Addr), hs[k]? = some q → q.1 = some a → a.block ≠ p.block) (u : Value) : NLo (w.setCell p u) base e hs xs := fun k q x h1 h2 =>
  ⟨(h k q x h1 h2).1, by
    refine ownsRow_setCell_other (h k q x h1 h2).2 (fun e9 => ?_) u
    obtain ⟨A, m, c⟩ := q
    cases A with
    | none => simp [Value.ownBlock] at e9
    | some a => simp [Value.ownBlock] at e9; exact hp k _ a h1 rfl e9⟩
/-- No two rows lie in one block. -/
def NLd (hs : List HS) : Prop := ∀ (i j : Nat) (h h' : HS) (a a' : Addr), i < j → hs[i]? = some h → hs[j]? = some h' → h.1 = some a → h'.1 = some a' → a.block ≠ a'.block
theorem NLd.snoc {hs : List HS} {k : Nat} {q : HS} (h : NLd hs) (hl : hs.length = k) (hq : ∀ (i : Nat) (h : HS) (a a' : Addr), hs[i]? = some h → h.1 = some a → q.1 = some a' → a.block ≠ a'.block) : NLd (hs ++ [q]) := by
  intro i j h1 h2 a a' hij hi hj ha ha'
  by_cases hjk : j < k
  · rw [List.getElem?_append_left (by omega)] at hj
    rw [List.getElem?_append_left (by omega)] at hi
    exact h i j h1 h2 a a' hij hi hj ha ha'
  · have hje : j = k := by have := (List.getElem?_eq_some_iff.1 hj).1; simp at this; omega
    subst hje
    rw [List.getElem?_append_left (by omega)] at hi
    rw [List.getElem?_append_right (by omega)] at hj
    simp [hl] at hj
    subst hj
    exact hq i h1 a a' hi ha ha'
theorem NLo.top {w : World} {base : Nat} {e : TypeId} {hs : List HS} {xs : List (List T3)} (h : NLo w base e hs xs) (hl : hs.length = xs.length) (i : Nat) (q : HS) (a : Addr) (hi : hs[i]? = some q) (ha : q.1 = some a) : base ≤ a.block ∧ a.block < w.heap.size := by
  have hlt : i < xs.length := by have := (List.getElem?_eq_some_iff.1 hi).1; omega
  exact (h i q _ hi (List.getElem?_eq_getElem hlt)).2.lt a.block (by rw [ha]; rfl)
theorem NLo.top' {w : World} {base : Nat} {e : TypeId} {hs : List HS} {xs : List (List T3)} (h : NLo w base e hs xs) (hl : hs.length ≤ xs.length) (i : Nat) (q : HS) (a : Addr) (hi : hs[i]? = some q) (ha : q.1 = some a) : base ≤ a.block ∧ a.block < w.heap.size := by
  have hlt : i < xs.length := by have := (List.getElem?_eq_some_iff.1 hi).1; omega
  exact (h i q _ hi (List.getElem?_eq_getElem hlt)).2.lt a.block (by rw [ha]; rfl)
theorem RdL.of_ownB {w : World} {b0 B : Nat} {e : TypeId} {A : Option Addr} {n c : Nat} {hs : List HS} (h : w.ownsRow b0 e 1 (.slice A n c) n (hs.flatMap cS)) (hl : hs.length = n) (hA : ∀ a, A = some a → a.block < B) : RdL cS 1 w B A n c hs := by
  obtain ⟨h1, h2, h3, h4, h5⟩ := RdL.of_own hl h
  exact ⟨h1, h2, h3, h4, fun hpos => by obtain ⟨b, off, e1, hb, hc⟩ := h5 hpos; exact ⟨b, off, e1, hA _ e1, hc⟩⟩
/-- What the marking of rows between base and top leaves alone. -/
def Chg (base top : Nat) (w w' : World) : Prop := Below base w w' ∧ ∀ b, top ≤ b → b < w.heap.size → w'.heap[b]? = w.heap[b]?
theorem Chg.refl (base top : Nat) (w : World) : Chg base top w w := ⟨Below.refl _ _, fun _ _ _ => rfl⟩
theorem Chg.trans {base top : Nat} {w w' w'' : World} (h : Chg base top w w') (h' : Chg base top w' w'') : Chg base top w w'' :=
  ⟨h.1.trans h'.1, fun b hb hw => (h'.2 b hb (Nat.lt_of_lt_of_le hw h.1.size)).trans (h.2 b hb hw)⟩
theorem Chg.of_grown {base top : Nat} {w w' : World} {r : Option Nat} (h : w.grownBy w' r) (hB : base ≤ w.heap.size) (hr : ∀ g, r = some g → base ≤ g ∧ g < top) : Chg base top w w' :=
  ⟨(Below.refl _ _).grown h hB (fun g hg => (hr g hg).1), fun b hb hw => h.block b hw (by
    cases r with
    | none => simp
    | some g => have := (hr g rfl).2; simp; omega)⟩
theorem own_chg {w w' : World} {base top b0 : Nat} {e : TypeId} {s n : Nat} {v : Value} {xs : List Value} (h : w.ownsRow b0 e s v n xs) (hc : Chg base top w w') (hv : ∀ q, v.ownBlock = some q → top ≤ q) : w'.ownsRow b0 e s v n xs := by
  refine ⟨h.1, ?_⟩
  rcases h.2 with h2 | ⟨g, cap, cur, hv2, hg, hh, r⟩
  · exact .inl h2
  · have hlt := (h.lt g (by rw [hv2]; rfl)).2
    exact .inr ⟨g, cap, cur, hv2, hg, (hc.2 g (hv g (by rw [hv2]; rfl)) hlt).trans hh, r⟩
theorem NLo.kept {w w' : World} {base : Nat} {e : TypeId} {hs : List HS} {xs : List (List T3)} {r : Option Nat} (h : NLo w base e hs xs) (hg : w.grownBy w' r) (hr : ∀ q, r = some q → q < base) : NLo w' base e hs xs := fun k q x h1 h2 =>
  ⟨(h k q x h1 h2).1, (h k q x h1 h2).2.kept hg (own_ne (h k q x h1 h2).2 hr)⟩
theorem NLo.snoc {w : World} {base : Nat} {e : TypeId} {hs : List HS} {xs : List (List T3)} {k : Nat} {q : HS} {x : List T3} (h : NLo w base e hs xs) (hl : hs.length = k) (hx : xs[k]? = some x) (h1 : x.length = q.2.1) (h2 : w.ownsRow base e 3 (.slice q.1 q.2.1 q.2.2) q.2.1 (x.flatMap c3)) : NLo w base e (hs ++ [q]) xs := by
  intro j q' x' hq hx'
  by_cases hj : j < k
  · rw [List.getElem?_append_left (by omega)] at hq; exact h j q' x' hq hx'
  · have hjk : j = k := by have := (List.getElem?_eq_some_iff.1 hq).1; simp at this; omega
    subst hjk
    rw [List.getElem?_append_right (by omega)] at hq
    simp [hl] at hq
    rw [hx] at hx'; cases hx'; subst hq
    exact ⟨h1, h2⟩
theorem put1S {w : World} {base g n k : Nat} {e : TypeId} {l : List HS} {z : Value} (h : w.ownsRow base e 1 (.slice (some ⟨g, 0, none⟩) n n) n (l.flatMap cS ++ List.replicate (n - k) z)) (hl : l.length = k) (hk : k < n) (q : HS) :
    (w.setCell ⟨g, k, none⟩ (.slice q.1 q.2.1 q.2.2)).ownsRow base e 1 (.slice (some ⟨g, 0, none⟩) n n) n ((l ++ [q]).flatMap cS ++ List.replicate (n - (k + 1)) z) := by
  have h1 := (h.stored k (.slice q.1 q.2.1 q.2.2)).1
  rw [show n - k = (n - (k + 1)) + 1 by omega, List.replicate_succ, over1 (by rw [flat_len cS_len, hl, Nat.mul_one]) (by simp)] at h1
  rw [flat_snoc]
  exact h1
theorem madeSl (n : Nat) : (madeCells (Value.slice none 0 0).cells n).toList = List.replicate n (.slice none 0 0) :=
  made_rep _ _ 1 n rfl (fun j hj => by match j, hj with | 0, _ => rfl) (by decide)
theorem madeSt (n : Nat) : (madeCells (Value.agg #[Value.slice none 0 0]).cells n).toList = List.replicate n (.slice none 0 0) :=
  made_rep _ _ 1 n rfl (fun j hj => by match j, hj with | 0, _ => rfl) (by decide)
section
variable {H : Type} {enc : TypeId × Value → H} {P : Program} {w : World} {base : Nat} {spare : Nat → Bool} {held : Bool}
def R3 (w : World) (cs : List Value) (x : List T3) : Prop := ∃ A n c, cs = [.slice A n c] ∧ RdL c3 3 w w.heap.size A n c x ∧ ∀ p ∈ x, ok3 p
theorem nl_of {A : Option Addr} {n c : Nat} {xs : List (List T3)} (h : SL (R3 w) 1 w w.heap.size A n c xs) : NL w w.heap.size A n c xs ∧ ∀ x ∈ xs, ∀ p ∈ x, ok3 p := by
  obtain ⟨h1, h2, h3, h4⟩ := h
  obtain ⟨hs, hl, hk⟩ := list_choose (α := HS) (p := fun k q => ∃ x b off, xs[k]? = some x ∧ A = some ⟨b, off, none⟩ ∧ b < w.heap.size ∧ w.cell? ⟨b, off + k, none⟩ = some (.slice q.1 q.2.1 q.2.2) ∧ RdL c3 3 w w.heap.size q.1 q.2.1 q.2.2 x) n (fun k hk => by
    obtain ⟨b, off, e, hb, hq⟩ := h4 (by omega)
    have hx : xs[k]? = some (xs[k]'(by omega)) := List.getElem?_eq_getElem (by omega)
    obtain ⟨cs, _, hc, A', n', c', rfl, hr, _⟩ := hq k _ hx
    refine ⟨(A', n', c'), _, b, off, hx, e, hb, ?_, hr⟩
    have := hc 0 _ rfl
    simpa using this)
  refine ⟨⟨hs, rdl_mk cS_len hl h2 h3 (fun hpos => ?_), h1, fun k q x hq hx => ?_⟩, fun x hx => ?_⟩
  · obtain ⟨b, off, e, hb, _⟩ := h4 hpos
    refine ⟨b, off, e, hb, fun k q hq j u hu => ?_⟩
    obtain ⟨x, b', off', _, e', _, hc, _⟩ := hk k q hq
    rw [e] at e'; cases e'
    match j, hu with
    | 0, hu => cases hu; simpa using hc
  · obtain ⟨x', _, _, hx', _, _, _, hr⟩ := hk k q hq
    rw [hx] at hx'; cases hx'
    exact hr
  · obtain ⟨k, hk', rfl⟩ := List.mem_iff_getElem.1 hx
    obtain ⟨b, off, e, hb, hq⟩ := h4 (by omega)
    obtain ⟨cs, _, hc, A', n', c', _, _, ho⟩ := hq k _ (List.getElem?_eq_getElem hk')
    exact ho
theorem el_list {t e e0 : TypeId} {f0 f1 f2 : Field} (ht : P.underlying t = some (.slice e)) (he : P.underlying e = some (.struct #[f0, f1, f2]))
    (hone : oneCellFields P #[f0, f1, f2] = true) (hC : P.cellsOf e = 3) (h0 : f0.type = e0) (h1 : f1.type = e0) (h2 : f2.type = e0) (hi : P.underlying e0 = some (.int .i64))
    (fuel : Nat) (cs : List Value) (x : DataW H × List MemPlace) (h : DataW.trod enc P w base spare held fuel t cs = some x) : ∃ a, R3 w cs a := by
  have hcs : ∃ v, cs = [v] := by
    rcases open_slice ht h with ⟨h0, _⟩ | ⟨a, len, cap, m, n, D, Pl, hcs, _⟩
    · exact ⟨_, h0⟩
    · exact ⟨_, hcs⟩
  obtain ⟨v, rfl⟩ := hcs
  obtain ⟨A, n, c, xs, rfl, r1, g1⟩ := open_rows3 ht he hone hC h0 h1 h2 hi h
  exact ⟨xs, A, n, c, rfl, r1, g1⟩
theorem el_struct1 {ts t e e0 : TypeId} {f f0 f1 f2 : Field} (hs : P.underlying ts = some (.struct #[f])) (hft : f.type = t) (hone1 : oneCellFields P #[f] = true) (hC1 : P.cellsOf ts = 1) (ht : P.underlying t = some (.slice e)) (he : P.underlying e = some (.struct #[f0, f1, f2]))
    (hone : oneCellFields P #[f0, f1, f2] = true) (hC : P.cellsOf e = 3) (h0 : f0.type = e0) (h1 : f1.type = e0) (h2 : f2.type = e0) (hi : P.underlying e0 = some (.int .i64))
    (fuel : Nat) (cs : List Value) (x : DataW H × List MemPlace) (h : DataW.trod enc P w base spare held fuel ts cs = some x) : ∃ a, R3 w cs a := by
  obtain ⟨y0, n, _, hl, h3⟩ := trod_struct1 hs h
  obtain ⟨o0, k0⟩ := hone_of hone1 0 f rfl
  obtain ⟨c0, rfl⟩ : ∃ c0, cs = [c0] := by
    have h9 : cs.length = 1 := hl.trans hC1
    match cs, h9 with
    | [c0], _ => exact ⟨c0, rfl⟩
  have h4 : DataW.trod enc P w base spare held n f.type [c0] = some y0 := by simpa [o0, k0] using h3
  rw [hft] at h4
  exact el_list ht he hone hC h0 h1 h2 hi _ _ _ h4
end
section
variable {H : Type} {enc : TypeId × Value → H} {W : World} {v : Value} {d : DataW H} {p : List MemPlace} {base : Nat}
end
end Go.Proofs.YtnjifhlabbejoaaGreatDoor
