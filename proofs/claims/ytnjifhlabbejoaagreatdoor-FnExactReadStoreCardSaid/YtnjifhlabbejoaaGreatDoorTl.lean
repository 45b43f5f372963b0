/- Slices of templates (a label, features): how they are read, and how they lie in memory of their own. -/
import Derived.Test.YtnjifhlabbejoaaGreatDoorNl
import Derived.IntWalk
namespace Go.Proofs.YtnjifhlabbejoaaGreatDoor
open Go.ChangeShapes Go.WideShapes Go.ChangeAt Go.RowKit Go.Deep Go.Joins
abbrev TV := ByteArray × List T3
abbrev HT := ByteArray × HS
def cT (h : HT) : List Value := [.string h.1, .slice h.2.1 h.2.2.1 h.2.2.2]
theorem cT_len (h : HT) : (cT h).length = 2 := rfl
theorem oneT (h : HT) : ∀ u ∈ cT h, u.oneCell' = true := by intro u hu; simp [cT] at hu; rcases hu with rfl | rfl <;> rfl
theorem str_ne {s t : ByteArray} (h : ¬ s = t) : ¬ s.toList = t.toList := fun e => h (bytes_inj (by rw [← ByteArray.toList_eq, ← ByteArray.toList_eq]; exact e))
theorem Blk.at2 {w : World} {g : Nat} {t : TypeId} {a b : Value} (h : Blk w g t #[a, b]) : Cel w g 0 a ∧ Cel w g 1 b := ⟨⟨h.lt, by rw [h.cell 0]; rfl⟩, ⟨h.lt, by rw [h.cell 1]; rfl⟩⟩
/-- The headers of n templates, and what each template holds. -/
def TLh (w : World) (B : Nat) (hs : List HT) (xs : List TV) : Prop := ∀ (k : Nat) (h : HT) (x : TV), hs[k]? = some h → xs[k]? = some x → h.1 = x.1 ∧ RdL c3 3 w B h.2.1 h.2.2.1 h.2.2.2 x.2
def TL (w : World) (B : Nat) (A : Option Addr) (n c : Nat) (xs : List TV) : Prop := ∃ hs : List HT, RdL cT 2 w B A n c hs ∧ xs.length = n ∧ TLh w B hs xs
section
variable {w w' : World} {B B' : Nat} {A : Option Addr} {n c : Nat} {xs : List TV} {hs : List HT}
theorem TLh.below (h : TLh w B hs xs) (hb : Below B w w') : TLh w' B hs xs := fun k q x h1 h2 => ⟨(h k q x h1 h2).1, (h k q x h1 h2).2.below hb⟩
theorem TLh.more (h : TLh w B hs xs) (hB : B ≤ B') : TLh w B' hs xs := fun k q x h1 h2 => ⟨(h k q x h1 h2).1, (h k q x h1 h2).2.more hB⟩
theorem TLh.on (h : TLh w w.heap.size hs xs) (hb : Below w.heap.size w w') : TLh w' w'.heap.size hs xs := (h.below hb).more hb.size
theorem TL.below (h : TL w B A n c xs) (hb : Below B w w') : TL w' B A n c xs := by obtain ⟨hs, h1, h2, h3⟩ := h; exact ⟨hs, h1.below hb, h2, h3.below hb⟩
theorem TL.more (h : TL w B A n c xs) (hB : B ≤ B') : TL w B' A n c xs := by obtain ⟨hs, h1, h2, h3⟩ := h; exact ⟨hs, h1.more hB, h2, h3.more hB⟩
theorem TL.on (h : TL w w.heap.size A n c xs) (hb : Below w.heap.size w w') : TL w' w'.heap.size A n c xs := (h.below hb).more hb.size
theorem TL.drew (h : TL w B A n c xs) : TL w.drew B A n c xs := h
theorem TL.drewN (h : TL w B A n c xs) (k : Nat) : TL (w.drewN k) B A n c xs := h
theorem TL.len (h : TL w B A n c xs) : xs.length = n := by obtain ⟨_, _, h2, _⟩ := h; exact h2
theorem TL.cap (h : TL w B A n c xs) : n ≤ c := by obtain ⟨_, h1, _, _⟩ := h; exact h1.cap
theorem TL.capm (h : TL w B A n c xs) : c ≤ maxLen := by obtain ⟨_, h1, _, _⟩ := h; exact h1.capm
theorem TL.at_ (h : TL w B A n c xs) {k : Nat} (hk : k < n) :
    ∃ b off s A' n' c' x, A = some ⟨b, off, none⟩ ∧ b < B ∧ Hid (xs[k]? = some (s, x)) ∧ w.cell? ⟨b, off + k * 2, none⟩ = some (.string s) ∧ w.cell? ⟨b, off + k * 2 + 1, none⟩ = some (.slice A' n' c') ∧ RdL c3 3 w B A' n' c' x := by
  obtain ⟨hs, h1, h2, h3⟩ := h
  obtain ⟨b, off, q, e, hb, hx, hc⟩ := RdL.at_ (f := cT) (s := 2) cT_len h1 hk
  have hk2 : xs[k]? = some (xs[k]'(by omega)) := List.getElem?_eq_getElem (by omega)
  obtain ⟨⟨s, x⟩, hxx⟩ : ∃ x, xs[k]'(by omega) = x := ⟨_, rfl⟩
  rw [hxx] at hk2
  obtain ⟨g1, g2⟩ := h3 k q _ hx hk2
  simp only at g1
  refine ⟨b, off, s, q.2.1, q.2.2.1, q.2.2.2, x, e, hb, hk2, ?_, ?_, g2⟩
  · have := hc 0 (.string q.1) (by decide) rfl
    rw [← g1]; simpa using this
  · exact hc 1 (.slice q.2.1 q.2.2.1 q.2.2.2) (by decide) rfl
theorem TL.nil : TL w B none 0 0 [] := ⟨[], ⟨rfl, rfl, Nat.le_refl _, by simp [maxLen], fun h => absurd h (by omega)⟩, rfl, fun k h x h1 => by simp at h1⟩
end
/-- The whole measure of a slice of templates. -/
def szT (x : TV) : Nat := x.1.size + x.2.length
def totT (xs : List TV) : Nat := xs.length + (xs.map szT).sum
def preT (xs : List TV) (k : Nat) : Nat := ((xs.take k).map szT).sum
theorem preT_step {xs : List TV} {k : Nat} {x : TV} (h : xs[k]? = some x) : preT xs (k + 1) = preT xs k + szT x := by
  unfold preT; rw [take_succ_of h]; simp
theorem preT_all {xs : List TV} {k : Nat} (h : xs.length ≤ k) : preT xs k = (xs.map szT).sum := by unfold preT; rw [List.take_of_length_le h]
theorem preT_le (xs : List TV) (k : Nat) : preT xs k ≤ (xs.map szT).sum := by
  unfold preT
  have h : xs.map szT = (xs.take k).map szT ++ (xs.drop k).map szT := by rw [← List.map_append, List.take_append_drop]
  rw [h, List.sum_append]; omega
theorem totT_at {xs : List TV} {k : Nat} {x : TV} (h : xs[k]? = some x) : xs.length + preT xs k + szT x ≤ totT xs := by
  have h1 := preT_le xs (k + 1); rw [preT_step h] at h1; unfold totT; omega
theorem preT_zero (xs : List TV) : preT xs 0 = 0 := rfl
theorem totT_len (xs : List TV) : xs.length ≤ totT xs := by unfold totT; omega
theorem totT_mem {xs : List TV} {k : Nat} {x : TV} (h : xs[k]? = some x) {N : Nat} (hN : totT xs ≤ N) : x.1.size ≤ N ∧ x.2.length ≤ N := by
  have h1 := totT_at h; unfold szT at h1; omega
def szW (xs : List TV) (left : Int) : Int := if (totT xs : Int) ≤ left then left - totT xs else -1
theorem szW_yes {xs : List TV} {left : Int} (h : (totT xs : Int) ≤ left) : szW xs left = left - totT xs := if_pos h
theorem szW_no {xs : List TV} {left : Int} (h : left < totT xs) : szW xs left = -1 := if_neg (by omega)
/-- Rows of their own. -/
def TLo (w : World) (base : Nat) (e : TypeId) (hs : List HT) (xs : List TV) : Prop := ∀ (k : Nat) (h : HT) (x : TV), hs[k]? = some h → xs[k]? = some x → h.1 = x.1 ∧ x.2.length = h.2.2.1 ∧ w.ownsRow base e 3 (.slice h.2.1 h.2.2.1 h.2.2.2) h.2.2.1 (x.2.flatMap c3)
section
variable {w w' : World} {base base' : Nat} {e : TypeId} {hs : List HT} {xs : List TV}
theorem TLo.on (h : TLo w base e hs xs) (hb : Below w.heap.size w w') : TLo w' base e hs xs := fun k q x h1 h2 => ⟨(h k q x h1 h2).1, (h k q x h1 h2).2.1, own_below (h k q x h1 h2).2.2 hb⟩
theorem TLo.tl (h : TLo w base e hs xs) : TLh w w.heap.size hs xs := fun k q x h1 h2 => ⟨(h k q x h1 h2).1, RdL.of_own (h k q x h1 h2).2.1 (h k q x h1 h2).2.2⟩
theorem TLo.mono (h : TLo w base e hs xs) (hb : base' ≤ base) : TLo w base' e hs xs := fun k q x h1 h2 => ⟨(h k q x h1 h2).1, (h k q x h1 h2).2.1, own_mono (h k q x h1 h2).2.2 hb⟩
theorem tl_own {e' : TypeId} {A : Option Addr} {n c : Nat} (ho : w.ownsRow base e 2 (.slice A n c) n (hs.flatMap cT)) (hl : hs.length = n) (hx : xs.length = n) (h : TLo w base' e' hs xs) : TL w w.heap.size A n c xs :=
  ⟨hs, RdL.of_own hl ho, hx, h.tl⟩
theorem TLo.top (h : TLo w base e hs xs) (hl : hs.length ≤ xs.length) (i : Nat) (q : HT) (a : Addr) (hi : hs[i]? = some q) (ha : q.2.1 = some a) : base ≤ a.block ∧ a.block < w.heap.size := by
  have hlt : i < xs.length := by have := (List.getElem?_eq_some_iff.1 hi).1; omega
  exact (h i q _ hi (List.getElem?_eq_getElem hlt)).2.2.lt a.block (by rw [ha]; rfl)
theorem TLo.far (h : TLo w base e hs xs) {p : Addr} (hp : ∀ (k : Nat) (q : HT) (a : Addr), hs[k]? = some q → q.2.1 = some a → a.block ≠ p.block) (u : Value) : TLo (w.setCell p u) base e hs xs := fun k q x h1 h2 =>
  ⟨(h k q x h1 h2).1, (h k q x h1 h2).2.1, by
    refine ownsRow_setCell_other (h k q x h1 h2).2.2 (fun e9 => ?_) u
    obtain ⟨l, A, m, c⟩ := q
    cases A with
    | none => simp [Value.ownBlock] at e9
    | some a => simp [Value.ownBlock] at e9; exact hp k _ a h1 rfl e9⟩
theorem TLo.kept {r : Option Nat} (h : TLo w base e hs xs) (hg : w.grownBy w' r) (hr : ∀ q, r = some q → q < base) : TLo w' base e hs xs := fun k q x h1 h2 =>
  ⟨(h k q x h1 h2).1, (h k q x h1 h2).2.1, (h k q x h1 h2).2.2.kept hg (own_ne (h k q x h1 h2).2.2 hr)⟩
theorem TLo.chg {b0 top : Nat} (h : TLo w base e hs xs) (hc : Chg b0 top w w') (ht : top ≤ base) : TLo w' base e hs xs := fun k q x h1 h2 =>
  ⟨(h k q x h1 h2).1, (h k q x h1 h2).2.1, own_chg (h k q x h1 h2).2.2 hc (fun g hg => by have := ((h k q x h1 h2).2.2.lt g hg).1; omega)⟩
theorem TLo.snoc {k : Nat} {q : HT} {x : TV} (h : TLo w base e hs xs) (hl : hs.length = k) (hx : xs[k]? = some x) (h0 : q.1 = x.1) (h1 : x.2.length = q.2.2.1) (h2 : w.ownsRow base e 3 (.slice q.2.1 q.2.2.1 q.2.2.2) q.2.2.1 (x.2.flatMap c3)) : TLo w base e (hs ++ [q]) xs := by
  intro j q' x' hq hx'
  by_cases hj : j < k
  · rw [List.getElem?_append_left (by omega)] at hq; exact h j q' x' hq hx'
  · have hjk : j = k := by have := (List.getElem?_eq_some_iff.1 hq).1; simp at this; omega
    subst hjk
    rw [List.getElem?_append_right (by omega)] at hq
    simp [hl] at hq
    rw [hx] at hx'; cases hx'; subst hq
    exact ⟨h0, h1, h2⟩
/-- The same where the list of what is held grows as well. -/
theorem TLo.push {k : Nat} {q : HT} {x : TV} (h : TLo w base e hs xs) (hl : hs.length = k) (hx : xs.length = k) (h0 : q.1 = x.1) (h1 : x.2.length = q.2.2.1) (h2 : w.ownsRow base e 3 (.slice q.2.1 q.2.2.1 q.2.2.2) q.2.2.1 (x.2.flatMap c3)) : TLo w base e (hs ++ [q]) (xs ++ [x]) := by
  intro j q' x' hq hx'
  by_cases hj : j < k
  · rw [List.getElem?_append_left (by omega)] at hq hx'; exact h j q' x' hq hx'
  · have hjk : j = k := by have := (List.getElem?_eq_some_iff.1 hq).1; simp at this; omega
    subst hjk
    rw [List.getElem?_append_right (by omega)] at hq hx'
    simp [hl] at hq
    simp [hx] at hx'
    subst hq; subst hx'
    exact ⟨h0, h1, h2⟩
end
/-- No two rows lie in one block. -/
def TLd (hs : List HT) : Prop := NLd (hs.map Prod.snd)
theorem TLd.nil : TLd [] := fun i j h h' a a' _ hi => by simp at hi
theorem TLd.snoc {hs : List HT} {k : Nat} {q : HT} (h : TLd hs) (hl : hs.length = k) (hq : ∀ (i : Nat) (h : HT) (a a' : Addr), hs[i]? = some h → h.2.1 = some a → q.2.1 = some a' → a.block ≠ a'.block) : TLd (hs ++ [q]) := by
  unfold TLd
  rw [List.map_append]
  refine NLd.snoc (k := k) h (by simpa using hl) (fun i h a a' hi ha ha' => ?_)
  rw [List.getElem?_map, Option.map_eq_some_iff] at hi
  obtain ⟨h9, hi, rfl⟩ := hi
  exact hq i h9 a a' hi ha ha'
theorem TLd.ne {hs : List HT} (h : TLd hs) {i j : Nat} {q q' : HT} {a a' : Addr} (hij : i < j) (hi : hs[i]? = some q) (hj : hs[j]? = some q') (ha : q.2.1 = some a) (ha' : q'.2.1 = some a') : a.block ≠ a'.block :=
  h i j q.2 q'.2 a a' hij (by rw [List.getElem?_map, hi]; rfl) (by rw [List.getElem?_map, hj]; rfl) ha ha'
/-- n pairs of two values. -/
def rep2 : Nat → Value → Value → List Value
  | 0, _, _ => []
  | n + 1, y, z => y :: z :: rep2 n y z
theorem rep2_succ (n : Nat) (y z : Value) : rep2 (n + 1) y z = y :: z :: rep2 n y z := rfl
theorem rep2_len (n : Nat) (y z : Value) : (rep2 n y z).length = n * 2 := by
  induction n with
  | zero => rfl
  | succ n ih => rw [rep2_succ, List.length_cons, List.length_cons, ih]; omega
theorem rep2_get (n : Nat) (y z : Value) : ∀ j, (rep2 n y z)[j]? = if j < n * 2 then (if j % 2 = 0 then some y else some z) else none := by
  induction n with
  | zero => intro j; simp [rep2]
  | succ n ih =>
    intro j
    rw [rep2_succ]
    match j with
    | 0 => rw [if_pos (by omega), if_pos (by omega)]; rfl
    | 1 => rw [if_pos (by omega), if_neg (by omega)]; rfl
    | j + 2 =>
      rw [List.getElem?_cons_succ, List.getElem?_cons_succ, ih j]
      by_cases h : j < n * 2
      · rw [if_pos h, if_pos (show j + 2 < (n + 1) * 2 by omega), show (j + 2) % 2 = j % 2 by omega]
      · rw [if_neg h, if_neg (show ¬ j + 2 < (n + 1) * 2 by omega)]
theorem made_two (y z : Value) (n : Nat) : (madeCells #[y, z] (n * 2)).toList = rep2 n y z := by
  apply List.ext_getElem?
  intro j
  rw [rep2_get]
  by_cases hj : j < n * 2
  · rw [if_pos hj]
    rcases (show j % 2 = 0 ∨ j % 2 = 1 by omega) with h | h <;> simp [madeCells, hj, h]
  · rw [if_neg hj]
    simp [madeCells, hj]
/-- A store of the next header into a row that was made at its whole length. -/
theorem put2T {w : World} {base g n k : Nat} {e : TypeId} {l : List HT} {y z : Value} (h : w.ownsRow base e 2 (.slice (some ⟨g, 0, none⟩) n n) n (l.flatMap cT ++ rep2 (n - k) y z)) (hl : l.length = k) (hk : k < n) (q : HT) :
    ((w.setCell ⟨g, k * 2, none⟩ (.string q.1)).setCell ⟨g, k * 2 + 1, none⟩ (.slice q.2.1 q.2.2.1 q.2.2.2)).ownsRow base e 2 (.slice (some ⟨g, 0, none⟩) n n) n ((l ++ [q]).flatMap cT ++ rep2 (n - (k + 1)) y z) := by
  have h1 := ((h.stored (k * 2) (.string q.1)).1.stored (k * 2 + 1) (.slice q.2.1 q.2.2.1 q.2.2.2)).1
  rw [show n - k = (n - (k + 1)) + 1 by omega, rep2_succ, over2 (by rw [flat_len cT_len, hl]) (by simp)] at h1
  rw [flat_snoc]
  exact h1
section
variable {H : Type} {enc : TypeId × Value → H} {P : Program} {w : World} {base : Nat} {spare : Nat → Bool} {held : Bool}
def RT (w : World) (cs : List Value) (x : TV) : Prop := ∃ A n c, cs = [.string x.1, .slice A n c] ∧ RdL c3 3 w w.heap.size A n c x.2 ∧ (∀ p ∈ x.2, ok3 p) ∧ x.1.size ≤ maxLen
theorem tl_of {A : Option Addr} {n c : Nat} {xs : List TV} (h : SL (RT w) 2 w w.heap.size A n c xs) : TL w w.heap.size A n c xs ∧ ∀ x ∈ xs, (∀ p ∈ x.2, ok3 p) ∧ x.1.size ≤ maxLen := by
  obtain ⟨h1, h2, h3, h4⟩ := h
  obtain ⟨hs, hl, hk⟩ := list_choose (α := HT) (p := fun k q => ∃ x b off, xs[k]? = some x ∧ A = some ⟨b, off, none⟩ ∧ b < w.heap.size ∧ q.1 = x.1 ∧ w.cell? ⟨b, off + k * 2, none⟩ = some (.string q.1) ∧ w.cell? ⟨b, off + k * 2 + 1, none⟩ = some (.slice q.2.1 q.2.2.1 q.2.2.2) ∧ RdL c3 3 w w.heap.size q.2.1 q.2.2.1 q.2.2.2 x.2) n (fun k hk => by
    obtain ⟨b, off, e, hb, hq⟩ := h4 (by omega)
    have hx : xs[k]? = some (xs[k]'(by omega)) := List.getElem?_eq_getElem (by omega)
    obtain ⟨cs, _, hc, A', n', c', rfl, hr, _⟩ := hq k _ hx
    refine ⟨((xs[k]'(by omega)).1, A', n', c'), _, b, off, hx, e, hb, rfl, ?_, hc 1 _ rfl, hr⟩
    have := hc 0 _ rfl
    simpa using this)
  refine ⟨⟨hs, rdl_mk cT_len hl h2 h3 (fun hpos => ?_), h1, fun k q x hq hx => ?_⟩, fun x hx => ?_⟩
  · obtain ⟨b, off, e, hb, _⟩ := h4 hpos
    refine ⟨b, off, e, hb, fun k q hq j u hu => ?_⟩
    obtain ⟨x, b', off', _, e', _, _, hc0, hc1, _⟩ := hk k q hq
    rw [e] at e'; cases e'
    match j, hu with
    | 0, hu => cases hu; simpa using hc0
    | 1, hu => cases hu; exact hc1
  · obtain ⟨x', _, _, hx', _, _, h9, _, _, hr⟩ := hk k q hq
    rw [hx] at hx'; cases hx'
    exact ⟨h9, hr⟩
  · obtain ⟨k, hk', rfl⟩ := List.mem_iff_getElem.1 hx
    obtain ⟨b, off, e, hb, hq⟩ := h4 (by omega)
    obtain ⟨cs, _, hc, A', n', c', _, _, ho⟩ := hq k _ (List.getElem?_eq_getElem hk')
    exact ho
theorem el_templ {ts t1 t e e0 : TypeId} {g0 g1 f0 f1 f2 : Field} (hs : P.underlying ts = some (.struct #[g0, g1])) (hone1 : oneCellFields P #[g0, g1] = true) (hC1 : P.cellsOf ts = 2) (hg0 : g0.type = t1) (hg1 : g1.type = t) (h1 : P.underlying t1 = some .string) (ht : P.underlying t = some (.slice e)) (he : P.underlying e = some (.struct #[f0, f1, f2]))
    (hone : oneCellFields P #[f0, f1, f2] = true) (hC : P.cellsOf e = 3) (h0 : f0.type = e0) (h1' : f1.type = e0) (h2 : f2.type = e0) (hi : P.underlying e0 = some (.int .i64))
    (fuel : Nat) (cs : List Value) (x : DataW H × List MemPlace) (h : DataW.trod enc P w base spare held fuel ts cs = some x) : ∃ a, RT w cs a := by
  obtain ⟨y0, y1, n, _, hl, h3, h4⟩ := trod_struct2 hs h
  obtain ⟨o0, k0⟩ := hone_of hone1 0 g0 rfl
  obtain ⟨o1, k1⟩ := hone_of hone1 1 g1 rfl
  obtain ⟨c0, c1, rfl⟩ : ∃ c0 c1, cs = [c0, c1] := by
    have h9 : cs.length = 2 := hl.trans hC1
    match cs, h9 with
    | [c0, c1], _ => exact ⟨c0, c1, rfl⟩
  have h5 : DataW.trod enc P w base spare held n g0.type [c0] = some y0 := by simpa [o0, k0] using h3
  have h6 : DataW.trod enc P w base spare held n g1.type [c1] = some y1 := by simpa [o1, k1] using h4
  rw [hg0] at h5
  rw [hg1] at h6
  obtain ⟨s, hs1, _, hs2⟩ := DataW.trod_string h1 h5
  obtain ⟨A, n, c, xs, rfl, r1, g1⟩ := open_rows3 ht he hone hC h0 h1' h2 hi h6
  cases hs1
  exact ⟨(s, xs), A, n, c, rfl, r1, g1, hs2⟩
end
section
variable {H : Type} {enc : TypeId × Value → H} {W : World} {v : Value} {d : DataW H} {p : List MemPlace} {base : Nat}
end
end Go.Proofs.YtnjifhlabbejoaaGreatDoor
