/- Plain words and lemmas, with no program in sight: how a slice in memory reads as a list, lists cut at a counter, small closers. -/
import Derived.WalkKit
import Derived.ProofKit
import Derived.Lib.Hide
import Derived.Deep.QuietTactic
import Derived.BigQuiet
namespace Go.Proofs.YtnjifhlabbejoaaGreatDoor
open Go.RowKit

/-! ### Endings -/
theorem ret_bool {a b : Bool} (h : a = b) : Ending.returned (.bool a) = Ending.returned (.bool b) := by rw [h]
theorem ret_int {k : IntKind} {a b : Int} (h : a = b) : Ending.returned (.int k a) = Ending.returned (.int k b) := by rw [h]
theorem ret_ii {a b c d : Int} (h : a = b) (h' : c = d) : Ending.returned (.tuple #[.int .i64 a, .int .i64 c]) = Ending.returned (.tuple #[.int .i64 b, .int .i64 d]) := by rw [h, h']

/-! ### Worlds -/
theorem bcell {W w1 : World} (hb : Below W.heap.size W w1) : (∀ b o, b < W.heap.size → w1.cell? ⟨b, o, none⟩ = W.cell? ⟨b, o, none⟩) ∧ (∀ b o, b < W.heap.size → w1.frozen? ⟨b, o, none⟩ = W.frozen? ⟨b, o, none⟩) :=
  ⟨fun b o h => hb.cell (p := ⟨b, o, none⟩) h, fun b o h => hb.frozen (p := ⟨b, o, none⟩) h⟩
theorem below_drewN {B : Nat} {a w : World} (h : Below B a w) (n : Nat) : Below B a (w.drewN n) := ⟨h.os, h.tape, h.output, h.size, h.block⟩
theorem below_app {B : Nat} {a b c : World} (h : Below B a b) (k : Below b.heap.size b c) (hB : B ≤ b.heap.size) : Below B a c := h.trans (k.mono hB)

theorem below_on {a b c : World} (k : Below b.heap.size b c) (h : Below a.heap.size a b) : Below a.heap.size a c := h.trans (k.mono h.size)
/-! ### A call in a region that only reads, its contract stating the old world first -/
theorem quiet_add_left {P : Program} {f : FuncId} {args : Array Value} {w : World} {a n : Nat} {v : Value}
    (h : Calls P f args (w.drewN (a + n)) fun e w' => e = .returned v ∧ w.drewN (a + n) = w') :
    Calls P f args (w.drewN (a + n)) fun e w'' => e = .returned v ∧ ∃ m, w'' = w.drewN (a + m) :=
  h.mono fun _ _ ⟨he, hm⟩ => ⟨he, n, hm.symm⟩
theorem quiet_left {P : Program} {f : FuncId} {args : Array Value} {w : World} {n : Nat} {v : Value}
    (h : Calls P f args (w.drewN n) fun e w' => e = .returned v ∧ w.drewN n = w') : Calls P f args (w.drewN n) fun e w'' => e = .returned v ∧ ∃ m, w'' = w.drewN m :=
  h.mono fun _ _ ⟨he, hm⟩ => ⟨he, n, hm.symm⟩

/-! ### A slice that reads as a list of cells -/
def Rd (w : World) (B s : Nat) (A : Option Addr) (n c : Nat) (vs : List Value) : Prop :=
  vs.length = n * s ∧ n ≤ c ∧ c ≤ maxLen ∧ (0 < n → ∃ b off, A = some ⟨b, off, none⟩ ∧ b < B ∧ ∀ j u, vs[j]? = some u → w.cell? ⟨b, off + j, none⟩ = some u)

section
variable {w w' : World} {B B' s n c : Nat} {A : Option Addr} {vs : List Value}
theorem Rd.keep (h : Rd w B s A n c vs) (hk : ∀ p : Addr, p.block < B → w'.cell? p = w.cell? p) : Rd w' B s A n c vs :=
  ⟨h.1, h.2.1, h.2.2.1, fun hn => by
    obtain ⟨b, off, e, hb, hc⟩ := h.2.2.2 hn
    exact ⟨b, off, e, hb, fun j u hu => (hk _ hb).trans (hc j u hu)⟩⟩
theorem Rd.more (h : Rd w B s A n c vs) (hB : B ≤ B') : Rd w B' s A n c vs :=
  ⟨h.1, h.2.1, h.2.2.1, fun hn => by
    obtain ⟨b, off, e, hb, hc⟩ := h.2.2.2 hn
    exact ⟨b, off, e, by omega, hc⟩⟩
theorem Rd.below (h : Rd w B s A n c vs) (hb : Below B w w') : Rd w' B s A n c vs := h.keep fun _ hp => hb.cell hp
theorem Rd.below' (h : Rd w B s A n c vs) (hb : Below B' w w') (hB : B ≤ B') : Rd w' B s A n c vs := h.below (hb.mono hB)
theorem Rd.drew (h : Rd w B s A n c vs) : Rd w.drew B s A n c vs := h
theorem Rd.drewN (h : Rd w B s A n c vs) (k : Nat) : Rd (w.drewN k) B s A n c vs := h
theorem Rd.alloc (h : Rd w B s A n c vs) (hB : B ≤ w.heap.size) (o : Obj) : Rd (w.alloc o) B s A n c vs := h.keep fun p hp => World.cell?_alloc_lt w o p (by omega)
theorem Rd.setCell (h : Rd w B s A n c vs) {p : Addr} (hB : B ≤ p.block) (u : Value) : Rd (w.setCell p u) B s A n c vs :=
  h.keep fun q hq => World.cell?_setCell_other w p q u (fun e => by subst e; omega)
theorem Rd.of_own {base : Nat} {e : TypeId} (h : w.ownsRow base e s (.slice A n c) n vs) : Rd w w.heap.size s A n c vs := by
  rcases h.2 with ⟨hv, h0⟩ | ⟨g, cap, cur, hv, hg, hh, hn, hm, hz, ht⟩
  · cases hv
    exact ⟨h.1, Nat.le_refl _, by simp [maxLen], fun hn => absurd hn (by omega)⟩
  · cases hv
    refine ⟨h.1, hn, hm, fun hpos => ⟨g, 0, rfl, (Array.getElem?_eq_some_iff.1 hh).1, fun j u hu => ?_⟩⟩
    have hl : j < n * s := by have h1 := h.1; have := (List.getElem?_eq_some_iff.1 hu).1; omega
    have := h.cellAt j hl
    rw [Nat.zero_add, this]; exact hu
/-- What the call owns is a slice value. -/
theorem own_form {base : Nat} {e : TypeId} {v : Value} (h : w.ownsRow base e s v n vs) : ∃ A c, v = .slice A n c ∧ (A = none → c = 0) ∧ ∀ ad, A = some ad → base ≤ ad.block ∧ ad.block < w.heap.size := by
  rcases h.2 with ⟨hv, h0⟩ | ⟨g, cap, cur, hv, hg, hh, _⟩
  · subst h0; exact ⟨none, 0, hv, fun _ => rfl, fun _ h => by cases h⟩
  · exact ⟨_, cap, hv, ⟨fun h => (by cases h), fun ad h => (by cases h; exact ⟨hg, (Array.getElem?_eq_some_iff.1 hh).1⟩)⟩⟩
end

/-- What the call owns stays owned where only newer blocks are made or written. -/
theorem own_below {w w' : World} {base : Nat} {e : TypeId} {s n : Nat} {v : Value} {xs : List Value} (h : w.ownsRow base e s v n xs) (hb : Below w.heap.size w w') : w'.ownsRow base e s v n xs := by
  obtain ⟨h1, h2⟩ := h
  refine ⟨h1, ?_⟩
  rcases h2 with h2 | ⟨g, cap, cur, hv, hg, hh, r⟩
  · exact .inl h2
  · exact .inr ⟨g, cap, cur, hv, hg, (hb.block g (Array.getElem?_eq_some_iff.1 hh).1).trans hh, r⟩
theorem own_mono {w : World} {base base' : Nat} {e : TypeId} {s n : Nat} {v : Value} {xs : List Value} (h : w.ownsRow base e s v n xs) (hb : base' ≤ base) : w.ownsRow base' e s v n xs := by
  obtain ⟨h1, h2⟩ := h
  refine ⟨h1, ?_⟩
  rcases h2 with h2 | ⟨g, cap, cur, hv, hg, r⟩
  · exact .inl h2
  · exact .inr ⟨g, cap, cur, hv, by omega, r⟩
theorem own_cell {w : World} {base : Nat} {e : TypeId} {s n g c : Nat} {xs : List Value} (h : w.ownsRow base e s (.slice (some ⟨g, 0, none⟩) n c) n xs) {j : Nat} (hj : j < n * s) :
    (∃ u, w.cell? ⟨g, j, none⟩ = some u) ∧ w.frozen? ⟨g, j, none⟩ = false := by
  refine ⟨?_, h.frozenAt j⟩
  rw [h.cellAt j hj]
  exact ⟨xs[j]'(by have := h.1; omega), List.getElem?_eq_getElem _⟩

/-! ### Stores into a row that was made at its whole length -/
theorem set_one {l : List Value} {k m : Nat} {z a : Value} (h : l.length = k) : (l ++ List.replicate (m + 1) z).set k a = (l ++ [a]) ++ List.replicate m z := by
  subst h
  rw [List.set_append_right _ _ (Nat.le_refl _), Nat.sub_self, List.replicate_succ, List.set_cons_zero, List.append_assoc]; rfl
theorem rep_succ (z : Value) (m : Nat) : List.replicate (m + 1) z = z :: List.replicate m z := rfl
theorem set_two {l : List Value} {k m : Nat} {z a b : Value} (h : l.length = k * 2) : ((l ++ List.replicate ((m + 1) * 2) z).set (k * 2) a).set (k * 2 + 1) b = (l ++ [a, b]) ++ List.replicate (m * 2) z := by
  rw [show (m + 1) * 2 = (m * 2 + 1) + 1 by omega, set_one h, set_one (by simp [h])]
  simp
theorem set_three {l : List Value} {k m : Nat} {z a b c : Value} (h : l.length = k * 3) : (((l ++ List.replicate ((m + 1) * 3) z).set (k * 3) a).set (k * 3 + 1) b).set (k * 3 + 2) c = (l ++ [a, b, c]) ++ List.replicate (m * 3) z := by
  rw [show (m + 1) * 3 = ((m * 3 + 1) + 1) + 1 by omega, set_one h, set_one (by simp [h]), set_one (by simp [h])]
  simp

theorem made_rep (z : Value) (cs : Array Value) (s n : Nat) (hs : cs.size = s) (h : ∀ j : Nat, j < s → cs[j]? = some z) (hs0 : 0 < s) : (madeCells cs n).toList = List.replicate n z := by
  apply List.ext_getElem?
  intro j
  by_cases hj : j < n
  · have hm : j % cs.size < s := by rw [hs]; exact Nat.mod_lt _ hs0
    have := h _ hm
    have h2 : cs[j % cs.size]! = z := by rw [getElem!_def, this]
    simp [madeCells, hj, h2]
  · simp [madeCells, hj]
theorem made3 (n : Nat) : (madeCells (Value.agg #[Value.int IntKind.i64 0, Value.int IntKind.i64 0, Value.int IntKind.i64 0]).cells n).toList = List.replicate n (.int .i64 0) :=
  made_rep _ _ 3 n rfl (fun j hj => by match j, hj with | 0, _ => rfl | 1, _ => rfl | 2, _ => rfl) (by decide)
theorem made2 (n : Nat) : (madeCells (Value.agg #[Value.int IntKind.i64 0, Value.int IntKind.i64 0]).cells n).toList = List.replicate n (.int .i64 0) :=
  made_rep _ _ 2 n rfl (fun j hj => by match j, hj with | 0, _ => rfl | 1, _ => rfl) (by decide)
theorem made1 (n : Nat) : (madeCells (Value.int IntKind.i64 0).cells n).toList = List.replicate n (.int .i64 0) :=
  made_rep _ _ 1 n rfl (fun j hj => by match j, hj with | 0, _ => rfl) (by decide)

/-! ### A small struct in a block of its own -/
theorem cell_on {w w' : World} {b o : Nat} {v : Value} (h : w.cell? ⟨b, o, none⟩ = some v) (hb : Below w.heap.size w w') : w'.cell? ⟨b, o, none⟩ = some v :=
  (hb.cell (p := ⟨b, o, none⟩) (World.block_lt_of_cell? (w := w) (a := ⟨b, o, none⟩) h)).trans h
theorem cell_on2 {w w' : World} {b o : Nat} {v : Value} (hb : Below w.heap.size w w') (h : w.cell? ⟨b, o, none⟩ = some v) : w'.cell? ⟨b, o, none⟩ = some v := cell_on h hb
def Cell3 (w : World) (b : Nat) (x y z : Int) : Prop := w.cell? ⟨b, 0, none⟩ = some (.int .i64 x) ∧ w.cell? ⟨b, 1, none⟩ = some (.int .i64 y) ∧ w.cell? ⟨b, 2, none⟩ = some (.int .i64 z)
theorem Cell3.new (w : World) (x y z : Int) (t : TypeId) : Cell3 (w.alloc (.cells #[.int .i64 x, .int .i64 y, .int .i64 z] t)) w.heap.size x y z := by
  unfold Cell3; refine ⟨?_, ?_, ?_⟩ <;> go_simp
theorem Cell3.on {w w' : World} {b : Nat} {x y z : Int} (h : Cell3 w b x y z) (hb : Below w.heap.size w w') : Cell3 w' b x y z := ⟨cell_on h.1 hb, cell_on h.2.1 hb, cell_on h.2.2 hb⟩
theorem Cell3.two (w : World) (x y z x' y' z' : Int) (t t' : TypeId) : Cell3 ((w.alloc (.cells #[.int .i64 x, .int .i64 y, .int .i64 z] t)).alloc (.cells #[.int .i64 x', .int .i64 y', .int .i64 z'] t')) w.heap.size x y z ∧
    Cell3 ((w.alloc (.cells #[.int .i64 x, .int .i64 y, .int .i64 z] t)).alloc (.cells #[.int .i64 x', .int .i64 y', .int .i64 z'] t')) (w.heap.size + 1) x' y' z' := by
  unfold Cell3; refine ⟨⟨?_, ?_, ?_⟩, ?_, ?_, ?_⟩ <;> go_simp
def Cell2 (w : World) (b : Nat) (x y : Int) : Prop := w.cell? ⟨b, 0, none⟩ = some (.int .i64 x) ∧ w.cell? ⟨b, 1, none⟩ = some (.int .i64 y)
theorem Cell2.new (w : World) (x y : Int) (t : TypeId) : Cell2 (w.alloc (.cells #[.int .i64 x, .int .i64 y] t)) w.heap.size x y := by
  unfold Cell2; refine ⟨?_, ?_⟩ <;> go_simp
theorem Cell2.on {w w' : World} {b : Nat} {x y : Int} (h : Cell2 w b x y) (hb : Below w.heap.size w w') : Cell2 w' b x y := ⟨cell_on h.1 hb, cell_on h.2 hb⟩
def Cell4 (w : World) (b : Nat) (x y z t : Int) : Prop := w.cell? ⟨b, 0, none⟩ = some (.int .i64 x) ∧ w.cell? ⟨b, 1, none⟩ = some (.int .i64 y) ∧ w.cell? ⟨b, 2, none⟩ = some (.int .i64 z) ∧ w.cell? ⟨b, 3, none⟩ = some (.int .i64 t)
theorem Cell4.new (w : World) (x y z t : Int) (ty : TypeId) : Cell4 (w.alloc (.cells #[.int .i64 x, .int .i64 y, .int .i64 z, .int .i64 t] ty)) w.heap.size x y z t := by
  unfold Cell4; refine ⟨?_, ?_, ?_, ?_⟩ <;> go_simp
theorem Cell4.on {w w' : World} {b : Nat} {x y z t : Int} (h : Cell4 w b x y z t) (hb : Below w.heap.size w w') : Cell4 w' b x y z t := ⟨cell_on h.1 hb, cell_on h.2.1 hb, cell_on h.2.2.1 hb, cell_on h.2.2.2 hb⟩

/-! ### Lists of small structs of numbers, as cells -/
abbrev T2 := Int × Int
abbrev T3 := Int × Int × Int
abbrev T4 := Int × Int × Int × Int
def I64 (n : Int) : Prop := -9223372036854775808 ≤ n ∧ n ≤ 9223372036854775807
def ok2 (x : T2) : Prop := I64 x.1 ∧ I64 x.2
def ok3 (x : T3) : Prop := I64 x.1 ∧ I64 x.2.1 ∧ I64 x.2.2
def ok4 (x : T4) : Prop := I64 x.1 ∧ I64 x.2.1 ∧ I64 x.2.2.1 ∧ I64 x.2.2.2
def c1 (x : Int) : List Value := [.int .i64 x]
def c2 (x : T2) : List Value := [.int .i64 x.1, .int .i64 x.2]
def c3 (x : T3) : List Value := [.int .i64 x.1, .int .i64 x.2.1, .int .i64 x.2.2]
def c4 (x : T4) : List Value := [.int .i64 x.1, .int .i64 x.2.1, .int .i64 x.2.2.1, .int .i64 x.2.2.2]
def cs1 (s : ByteArray) : List Value := [.string s]
theorem c1_len (x : Int) : (c1 x).length = 1 := rfl
theorem c2_len (x : T2) : (c2 x).length = 2 := rfl
theorem c3_len (x : T3) : (c3 x).length = 3 := rfl
theorem c4_len (x : T4) : (c4 x).length = 4 := rfl
theorem cs1_len (x : ByteArray) : (cs1 x).length = 1 := rfl

theorem flat_len {α : Type} {f : α → List Value} {s : Nat} (hf : ∀ x, (f x).length = s) : ∀ xs : List α, (xs.flatMap f).length = xs.length * s
  | [] => by simp
  | x :: xs => by simp only [List.flatMap_cons, List.length_append, hf, flat_len hf xs, List.length_cons, Nat.succ_mul]; omega
theorem flat_get {α : Type} {f : α → List Value} {s : Nat} (hf : ∀ x, (f x).length = s) : ∀ (xs : List α) (k j : Nat) (x : α), xs[k]? = some x → j < s → (xs.flatMap f)[k * s + j]? = (f x)[j]?
  | [], k, j, x, h, _ => by simp at h
  | y :: xs, 0, j, x, h, hj => by
    simp at h; subst h
    simp only [List.flatMap_cons, Nat.zero_mul, Nat.zero_add]
    rw [List.getElem?_append_left (by rw [hf]; exact hj)]
  | y :: xs, k + 1, j, x, h, hj => by
    simp at h
    simp only [List.flatMap_cons]
    rw [List.getElem?_append_right (by rw [hf, Nat.succ_mul]; omega), hf]
    have : (k + 1) * s + j - s = k * s + j := by rw [Nat.succ_mul]; omega
    rw [this]
    exact flat_get hf xs k j x h hj

theorem take_succ_of {α : Type} {xs : List α} {k : Nat} {x : α} (h : xs[k]? = some x) : xs.take (k + 1) = xs.take k ++ [x] := by
  rw [List.take_add_one, h]; rfl
theorem drop_of {α : Type} {xs : List α} {k : Nat} {x : α} (h : xs[k]? = some x) : xs.drop k = x :: xs.drop (k + 1) := by
  obtain ⟨hk, rfl⟩ := List.getElem?_eq_some_iff.1 h
  exact List.drop_eq_getElem_cons hk

theorem all_step {α : Type} {p : α → Bool} {xs : List α} {k : Nat} {x : α} (h : xs[k]? = some x) (ha : (xs.take k).all p = true) (hx : p x = true) : (xs.take (k + 1)).all p = true := by
  rw [take_succ_of h]; simp only [List.all_append, ha, List.all_cons, hx, List.all_nil]; rfl
theorem all_fail {α : Type} {p : α → Bool} {xs : List α} {k : Nat} {x : α} (h : xs[k]? = some x) (hx : p x = false) : xs.all p = false := by
  rw [List.all_eq_false]; exact ⟨x, List.mem_of_getElem? h, by simp [hx]⟩
theorem all_end {α : Type} {p : α → Bool} {xs : List α} {k : Nat} (hk : xs.length ≤ k) (ha : (xs.take k).all p = true) : xs.all p = true := by
  rwa [List.take_of_length_le hk] at ha
theorem map_step {α β : Type} {f : α → β} {xs : List α} {k : Nat} {x : α} (h : xs[k]? = some x) : (xs.take (k + 1)).map f = (xs.take k).map f ++ [f x] := by
  rw [take_succ_of h]; simp
theorem fold_step {α β : Type} {f : β → α → β} {b : β} {xs : List α} {k : Nat} {x : α} (h : xs[k]? = some x) : (xs.take (k + 1)).foldl f b = f ((xs.take k).foldl f b) x := by
  rw [take_succ_of h]; simp

theorem flat_snoc {α : Type} {f : α → List Value} (l : List α) (x : α) : (l ++ [x]).flatMap f = l.flatMap f ++ f x := by simp
section
variable {w : World} {base g n k : Nat} {e : TypeId} {z : Value}
/-- A store of the next element into a row that was made at its whole length. -/
theorem put1 {l : List Int} (h : w.ownsRow base e 1 (.slice (some ⟨g, 0, none⟩) n n) n (l.flatMap c1 ++ List.replicate (n - k) z)) (hl : l.length = k) (hk : k < n) (x : Int) :
    (w.setCell ⟨g, k, none⟩ (.int .i64 x)).ownsRow base e 1 (.slice (some ⟨g, 0, none⟩) n n) n ((l ++ [x]).flatMap c1 ++ List.replicate (n - (k + 1)) z) := by
  have h1 := (h.stored k (.int .i64 x)).1
  rw [show n - k = (n - (k + 1)) + 1 by omega, set_one (by rw [flat_len c1_len, hl]; omega)] at h1
  rw [flat_snoc]; exact h1
theorem put2 {l : List T2} (h : w.ownsRow base e 2 (.slice (some ⟨g, 0, none⟩) n n) n (l.flatMap c2 ++ List.replicate ((n - k) * 2) z)) (hl : l.length = k) (hk : k < n) (x y : Int) :
    ((w.setCell ⟨g, k * 2, none⟩ (.int .i64 x)).setCell ⟨g, k * 2 + 1, none⟩ (.int .i64 y)).ownsRow base e 2 (.slice (some ⟨g, 0, none⟩) n n) n ((l ++ [(x, y)]).flatMap c2 ++ List.replicate ((n - (k + 1)) * 2) z) := by
  have h1 := ((h.stored (k * 2) (.int .i64 x)).1.stored (k * 2 + 1) (.int .i64 y)).1
  rw [show n - k = (n - (k + 1)) + 1 by omega, set_two (by rw [flat_len c2_len, hl])] at h1
  rw [flat_snoc]; exact h1
theorem put3 {l : List T3} (h : w.ownsRow base e 3 (.slice (some ⟨g, 0, none⟩) n n) n (l.flatMap c3 ++ List.replicate ((n - k) * 3) z)) (hl : l.length = k) (hk : k < n) (x y d : Int) :
    (((w.setCell ⟨g, k * 3, none⟩ (.int .i64 x)).setCell ⟨g, k * 3 + 1, none⟩ (.int .i64 y)).setCell ⟨g, k * 3 + 2, none⟩ (.int .i64 d)).ownsRow base e 3 (.slice (some ⟨g, 0, none⟩) n n) n ((l ++ [(x, y, d)]).flatMap c3 ++ List.replicate ((n - (k + 1)) * 3) z) := by
  have h1 := (((h.stored (k * 3) (.int .i64 x)).1.stored (k * 3 + 1) (.int .i64 y)).1.stored (k * 3 + 2) (.int .i64 d)).1
  rw [show n - k = (n - (k + 1)) + 1 by omega, set_three (by rw [flat_len c3_len, hl])] at h1
  rw [flat_snoc]; exact h1
end

theorem all_at {α : Type} {p : α → Bool} {xs : List α} {k : Nat} {x : α} (ha : xs.all p = true) (h : xs[k]? = some x) : p x = true := List.all_eq_true.1 ha x (List.mem_of_getElem? h)
def okE (b : Bool) : Int := if b = true then 0 else 1
def okL {α : Type} (b : Bool) (l : List α) : List α := if b = true then l else []

/-! ### Marks: the numbers k, k + 1, .. in the fields of a row -/
def marks1 (k : Int) (n : Nat) : List Int := (List.range n).map fun i : Nat => k + i
def marks2 (k : Int) (n : Nat) : List T2 := (List.range n).map fun i : Nat => (k + 2 * i, k + 2 * i + 1)
def marks3 (k : Int) (n : Nat) : List T3 := (List.range n).map fun i : Nat => (k + 3 * i, k + 3 * i + 1, k + 3 * i + 2)
theorem marks1_len (k : Int) (n : Nat) : (marks1 k n).length = n := by simp [marks1]
theorem marks2_len (k : Int) (n : Nat) : (marks2 k n).length = n := by simp [marks2]
theorem marks3_len (k : Int) (n : Nat) : (marks3 k n).length = n := by simp [marks3]
theorem marks1_succ (k : Int) (n : Nat) : marks1 k (n + 1) = marks1 k n ++ [k + n] := by simp [marks1, List.range_succ]
theorem marks2_succ (k : Int) (n : Nat) : marks2 k (n + 1) = marks2 k n ++ [(k + 2 * n, k + 2 * n + 1)] := by simp [marks2, List.range_succ]
theorem marks3_succ (k : Int) (n : Nat) : marks3 k (n + 1) = marks3 k n ++ [(k + 3 * n, k + 3 * n + 1, k + 3 * n + 2)] := by simp [marks3, List.range_succ]
theorem marks1_at {k : Int} {n i : Nat} {x : Int} (h : (marks1 k n)[i]? = some x) : x = k + i := by
  simp only [marks1, List.getElem?_map, Option.map_eq_some_iff] at h
  obtain ⟨j, hj, rfl⟩ := h
  obtain ⟨_, rfl⟩ := List.getElem?_eq_some_iff.1 hj
  simp
theorem marks2_at {k : Int} {n i : Nat} {x : T2} (h : (marks2 k n)[i]? = some x) : x = (k + 2 * i, k + 2 * i + 1) := by
  simp only [marks2, List.getElem?_map, Option.map_eq_some_iff] at h
  obtain ⟨j, hj, rfl⟩ := h
  obtain ⟨_, rfl⟩ := List.getElem?_eq_some_iff.1 hj
  simp
theorem marks3_at {k : Int} {n i : Nat} {x : T3} (h : (marks3 k n)[i]? = some x) : x = (k + 3 * i, k + 3 * i + 1, k + 3 * i + 2) := by
  simp only [marks3, List.getElem?_map, Option.map_eq_some_iff] at h
  obtain ⟨j, hj, rfl⟩ := h
  obtain ⟨_, rfl⟩ := List.getElem?_eq_some_iff.1 hj
  simp
theorem only_setCell {a w : World} {g : Nat} (h : a.grownBy w (some g)) {p : Addr} (hp : p.block = g ∨ a.heap.size ≤ p.block) (u : Value) : a.grownBy (w.setCell p u) (some g) :=
  ⟨h.os, h.tape, h.output, by simpa [World.setCell] using h.size, fun i hi hne => (Below.heap_setCell w p u i (by
    rintro rfl
    rcases hp with hp | hp
    · exact hne (by rw [hp])
    · omega)).trans (h.block i hi hne)⟩
theorem over1 {l r : List Value} {k : Nat} {a : Value} (h : l.length = k) (hr : 1 ≤ r.length) : (l ++ r).set k a = (l ++ [a]) ++ r.drop 1 := by
  subst h
  match r, hr with
  | v :: r, _ => rw [List.set_append_right _ _ (Nat.le_refl _), Nat.sub_self]; simp
theorem over2 {l r : List Value} {k : Nat} {a b : Value} (h : l.length = k * 2) (hr : 2 ≤ r.length) : ((l ++ r).set (k * 2) a).set (k * 2 + 1) b = (l ++ [a, b]) ++ r.drop 2 := by
  rw [over1 h (by omega), over1 (by simp [h]) (by simp; omega)]
  simp
theorem over3 {l r : List Value} {k : Nat} {a b c : Value} (h : l.length = k * 3) (hr : 3 ≤ r.length) : (((l ++ r).set (k * 3) a).set (k * 3 + 1) b).set (k * 3 + 2) c = (l ++ [a, b, c]) ++ r.drop 3 := by
  rw [over1 h (by omega), over1 (by simp [h]) (by simp; omega), over1 (by simp [h]) (by simp; omega)]
  simp
section
variable {w : World} {base g n c i : Nat} {e : TypeId} {k : Int} {vs : List Value}
theorem mark1 (h : w.ownsRow base e 1 (.slice (some ⟨g, 0, none⟩) n c) n ((marks1 k i).flatMap c1 ++ vs.drop i)) (hl : vs.length = n * 1) (hi : i < n) :
    (w.setCell ⟨g, i, none⟩ (.int .i64 (k + i))).ownsRow base e 1 (.slice (some ⟨g, 0, none⟩) n c) n ((marks1 k (i + 1)).flatMap c1 ++ vs.drop (i + 1)) := by
  have h1 := (h.stored i (.int .i64 (k + i))).1
  rw [over1 (by rw [flat_len c1_len, marks1_len]; omega) (by rw [List.length_drop]; omega)] at h1
  rw [marks1_succ, flat_snoc, show vs.drop (i + 1) = (vs.drop i).drop 1 by rw [List.drop_drop]]; exact h1
theorem mark2 (h : w.ownsRow base e 2 (.slice (some ⟨g, 0, none⟩) n c) n ((marks2 k i).flatMap c2 ++ vs.drop (i * 2))) (hl : vs.length = n * 2) (hi : i < n) :
    ((w.setCell ⟨g, i * 2, none⟩ (.int .i64 (k + 2 * i))).setCell ⟨g, i * 2 + 1, none⟩ (.int .i64 (k + 2 * i + 1))).ownsRow base e 2 (.slice (some ⟨g, 0, none⟩) n c) n ((marks2 k (i + 1)).flatMap c2 ++ vs.drop ((i + 1) * 2)) := by
  have h1 := ((h.stored (i * 2) (.int .i64 (k + 2 * i))).1.stored (i * 2 + 1) (.int .i64 (k + 2 * i + 1))).1
  rw [over2 (by rw [flat_len c2_len, marks2_len]) (by rw [List.length_drop]; omega)] at h1
  rw [marks2_succ, flat_snoc, show vs.drop ((i + 1) * 2) = (vs.drop (i * 2)).drop 2 by rw [List.drop_drop]; congr 1; omega]; exact h1
theorem mark3 (h : w.ownsRow base e 3 (.slice (some ⟨g, 0, none⟩) n c) n ((marks3 k i).flatMap c3 ++ vs.drop (i * 3))) (hl : vs.length = n * 3) (hi : i < n) :
    (((w.setCell ⟨g, i * 3, none⟩ (.int .i64 (k + 3 * i))).setCell ⟨g, i * 3 + 1, none⟩ (.int .i64 (k + 3 * i + 1))).setCell ⟨g, i * 3 + 2, none⟩ (.int .i64 (k + 3 * i + 1 + 1))).ownsRow base e 3 (.slice (some ⟨g, 0, none⟩) n c) n ((marks3 k (i + 1)).flatMap c3 ++ vs.drop ((i + 1) * 3)) := by
  have h1 := (((h.stored (i * 3) (.int .i64 (k + 3 * i))).1.stored (i * 3 + 1) (.int .i64 (k + 3 * i + 1))).1.stored (i * 3 + 2) (.int .i64 (k + 3 * i + 2))).1
  rw [over3 (by rw [flat_len c3_len, marks3_len]) (by rw [List.length_drop]; omega)] at h1
  rw [show k + 3 * (i : Int) + 1 + 1 = k + 3 * i + 2 by omega, marks3_succ, flat_snoc, show vs.drop ((i + 1) * 3) = (vs.drop (i * 3)).drop 3 by rw [List.drop_drop]; congr 1; omega]; exact h1
end
/-- A row that the call owns, where it has an element: where it lies. -/
theorem own_at {w : World} {base e s n c : Nat} {A : Option Addr} {vs : List Value} (h : w.ownsRow base e s (.slice A n c) n vs) (hn : 0 < n) : ∃ g, A = some ⟨g, 0, none⟩ ∧ base ≤ g ∧ g < w.heap.size := by
  rcases h.2 with ⟨hv, h0⟩ | ⟨g, cap, cur, hv, hg, hh, _⟩
  · omega
  · cases hv; exact ⟨g, rfl, hg, (Array.getElem?_eq_some_iff.1 hh).1⟩

theorem own_ne {w : World} {base e s n : Nat} {v : Value} {xs : List Value} {row : Option Nat} (h : w.ownsRow base e s v n xs) (hr : ∀ k, row = some k → k < base) : v.ownBlock = none ∨ v.ownBlock ≠ row := by
  cases hv : v.ownBlock with
  | none => exact .inl rfl
  | some k =>
    refine .inr (fun e => ?_)
    have h1 := (h.lt k hv).1
    have h2 := hr k e.symm
    omega

/-! ### append of one element onto a row of the call's own -/
section
variable {P : Program} (w : World) {ops : Array Oper} {rest : List Oper} {o : Oper} {a : Act} {Q : Exit → Act → World → Prop}
theorem app_one {α : Type} {f : α → List Value} {S Y : Nat} (hf : ∀ x, (f x).length = S) (hone : ∀ x, ∀ u ∈ f x, u.oneCell' = true) (hg : o.guard = none) (s x : Operand) (t : TypeId)
    (ho : o.op = .call { callee := .builtin .append, args := #[s, x], argTypes := #[t, t] }) (base : Nat) (e : TypeId) (i : TypeInfo) (z : Value)
    (h1 : P.underlying t = some (.slice e)) (hi : P.info? e = some i) (hz : i.zero = some z) (hs : i.size = S) (hy : i.bytes = Y) (hzs : z.cells.size = S) (hS : 0 < S) (hY : Y ≤ 4096)
    (A : Option Addr) (n c : Nat) (l : List α) (hv : a.eval s = .slice A n c) (hown : w.ownsRow base e S (.slice A n c) n (l.flatMap f))
    (g c' : Nat) (p : α) (hx : a.eval x = .slice (some ⟨g, 0, none⟩) 1 c') (hcell : ∀ j u, (f p)[j]? = some u → w.cell? ⟨g, j, none⟩ = some u) (hn : n ≤ 1048576) (hbase : base ≤ w.heap.size)
    (K : ∀ A' c' w', w'.ownsRow base e S (.slice A' (n + 1) c') (n + 1) ((l ++ [p]).flatMap f) → Below base w w' → wpList P ops Q rest (a.put o.dst (.slice A' (n + 1) c')) w') :
    wpList P ops Q (o :: rest) a w := by
  have hb : (n + 1) * Y ≤ 140737488355328 := Nat.le_trans (Nat.mul_le_mul (show n + 1 ≤ 1048577 by omega) hY) (by decide)
  refine wpList_append_own w hg s x t ho base e i z S Y h1 hi hz hs hy hzs hS (.slice A n c) n (l.flatMap f) hv hown ⟨g, 0, none⟩ 1 c' (f p) hx (by rw [hf, Nat.one_mul]) ?_ (hone p) (by unfold maxLen; omega) hb hbase ?_
  · intro j u hu
    have h := hcell j u hu
    unfold Addr.add
    split
    · rename_i h0; subst h0; exact h
    · simpa using h
  · intro v' w' hown' hgrow _
    obtain ⟨A', c'', rfl, _, _⟩ := own_form hown'
    refine K A' c'' w' (by rw [flat_snoc]; exact hown') ?_
    refine (Below.refl _ _).grown hgrow hbase (fun k hk => (hown.lt k hk).1)
theorem one1 (x : Int) : ∀ u ∈ c1 x, u.oneCell' = true := by intro u hu; simp [c1] at hu; subst hu; rfl
theorem one2 (x : T2) : ∀ u ∈ c2 x, u.oneCell' = true := by intro u hu; simp [c2] at hu; rcases hu with rfl | rfl <;> rfl
theorem one3 (x : T3) : ∀ u ∈ c3 x, u.oneCell' = true := by intro u hu; simp [c3] at hu; rcases hu with rfl | rfl | rfl <;> rfl
end
theorem news3 {w : World} {g : Nat} {x y d : Int} (h : Cell3 w g x y d) : ∀ j u, (c3 (x, y, d))[j]? = some u → w.cell? ⟨g, j, none⟩ = some u := by
  intro j u hu
  match j, hu with
  | 0, hu => cases hu; exact h.1
  | 1, hu => cases hu; exact h.2.1
  | 2, hu => cases hu; exact h.2.2
theorem news2 {w : World} {g : Nat} {x y : Int} (h : Cell2 w g x y) : ∀ j u, (c2 (x, y))[j]? = some u → w.cell? ⟨g, j, none⟩ = some u := by
  intro j u hu
  match j, hu with
  | 0, hu => cases hu; exact h.1
  | 1, hu => cases hu; exact h.2
theorem news1 {w : World} {g : Nat} {x : Int} (h : w.cell? ⟨g, 0, none⟩ = some (.int .i64 x)) : ∀ j u, (c1 x)[j]? = some u → w.cell? ⟨g, j, none⟩ = some u := by
  intro j u hu
  match j, hu with
  | 0, hu => cases hu; exact h

/-! ### Typed rows -/
def RdL {α : Type} (f : α → List Value) (s : Nat) (w : World) (B : Nat) (A : Option Addr) (n c : Nat) (xs : List α) : Prop := xs.length = n ∧ Rd w B s A n c (xs.flatMap f)
section
variable {α : Type} {f : α → List Value} {w w' : World} {B B' s n c : Nat} {A : Option Addr} {xs : List α}
theorem RdL.more (h : RdL f s w B A n c xs) (hB : B ≤ B') : RdL f s w B' A n c xs := ⟨h.1, h.2.more hB⟩
theorem RdL.below (h : RdL f s w B A n c xs) (hb : Below B w w') : RdL f s w' B A n c xs := ⟨h.1, h.2.below hb⟩
theorem RdL.below' (h : RdL f s w B A n c xs) (hb : Below B' w w') (hB : B ≤ B') : RdL f s w' B A n c xs := ⟨h.1, h.2.below' hb hB⟩
/-- On, in a later world, below its own heap. -/
theorem RdL.on (h : RdL f s w w.heap.size A n c xs) (hb : Below w.heap.size w w') : RdL f s w' w'.heap.size A n c xs := (h.below hb).more hb.size
theorem RdL.drew (h : RdL f s w B A n c xs) : RdL f s w.drew B A n c xs := h
theorem RdL.drewN (h : RdL f s w B A n c xs) (k : Nat) : RdL f s (w.drewN k) B A n c xs := h
theorem RdL.alloc (h : RdL f s w B A n c xs) (hB : B ≤ w.heap.size) (o : Obj) : RdL f s (w.alloc o) B A n c xs := ⟨h.1, h.2.alloc hB o⟩
theorem RdL.len (h : RdL f s w B A n c xs) : xs.length = n := h.1
theorem RdL.cap (h : RdL f s w B A n c xs) : n ≤ c := h.2.2.1
theorem RdL.capm (h : RdL f s w B A n c xs) : c ≤ maxLen := h.2.2.2.1
theorem RdL.of_own {base : Nat} {e : TypeId} (hl : xs.length = n) (h : w.ownsRow base e s (.slice A n c) n (xs.flatMap f)) : RdL f s w w.heap.size A n c xs := ⟨hl, Rd.of_own h⟩
theorem RdL.at_ (hf : ∀ x, (f x).length = s) (h : RdL f s w B A n c xs) {k : Nat} (hk : k < n) :
    ∃ b off x, A = some ⟨b, off, none⟩ ∧ b < B ∧ xs[k]? = some x ∧ ∀ j u, j < s → (f x)[j]? = some u → w.cell? ⟨b, off + k * s + j, none⟩ = some u := by
  obtain ⟨hl, _, _, _, hr⟩ := h
  obtain ⟨b, off, e, hb, hc⟩ := hr (by omega)
  have hx : xs[k]? = some (xs[k]'(by omega)) := List.getElem?_eq_getElem (by omega)
  refine ⟨b, off, _, e, hb, hx, fun j u hj hu => ?_⟩
  have := hc (k * s + j) u (by rw [flat_get hf xs k j _ hx hj]; exact hu)
  rwa [← Nat.add_assoc] at this
end
theorem RdL.at1 {w : World} {B n c : Nat} {A : Option Addr} {xs : List Int} (h : RdL c1 1 w B A n c xs) {k : Nat} (hk : k < n) :
    ∃ b off x, A = some ⟨b, off, none⟩ ∧ b < B ∧ Hid (xs[k]? = some x) ∧ w.cell? ⟨b, off + k, none⟩ = some (.int .i64 x) := by
  obtain ⟨b, off, x, e, hb, hx, hc⟩ := RdL.at_ (f := c1) (s := 1) (fun _ => rfl) h hk
  exact ⟨b, off, x, e, hb, hx, by have := hc 0 (.int .i64 x) (by decide) rfl; simpa using this⟩
theorem RdL.at2 {w : World} {B n c : Nat} {A : Option Addr} {xs : List T2} (h : RdL c2 2 w B A n c xs) {k : Nat} (hk : k < n) :
    ∃ b off x y, A = some ⟨b, off, none⟩ ∧ b < B ∧ Hid (xs[k]? = some (x, y)) ∧ w.cell? ⟨b, off + k * 2, none⟩ = some (.int .i64 x) ∧ w.cell? ⟨b, off + k * 2 + 1, none⟩ = some (.int .i64 y) := by
  obtain ⟨b, off, x, e, hb, hx, hc⟩ := RdL.at_ (f := c2) (fun _ => rfl) h hk
  exact ⟨b, off, x.1, x.2, e, hb, hx, hc 0 _ (by omega) rfl, hc 1 _ (by omega) rfl⟩
theorem RdL.at3 {w : World} {B n c : Nat} {A : Option Addr} {xs : List T3} (h : RdL c3 3 w B A n c xs) {k : Nat} (hk : k < n) :
    ∃ b off x y d, A = some ⟨b, off, none⟩ ∧ b < B ∧ Hid (xs[k]? = some (x, y, d)) ∧ w.cell? ⟨b, off + k * 3, none⟩ = some (.int .i64 x) ∧ w.cell? ⟨b, off + k * 3 + 1, none⟩ = some (.int .i64 y) ∧ w.cell? ⟨b, off + k * 3 + 2, none⟩ = some (.int .i64 d) := by
  obtain ⟨b, off, x, e, hb, hx, hc⟩ := RdL.at_ (f := c3) (fun _ => rfl) h hk
  exact ⟨b, off, x.1, x.2.1, x.2.2, e, hb, hx, hc 0 _ (by omega) rfl, hc 1 _ (by omega) rfl, hc 2 _ (by omega) rfl⟩
theorem RdL.at4 {w : World} {B n c : Nat} {A : Option Addr} {xs : List T4} (h : RdL c4 4 w B A n c xs) {k : Nat} (hk : k < n) :
    ∃ b off x y z t, A = some ⟨b, off, none⟩ ∧ b < B ∧ Hid (xs[k]? = some (x, y, z, t)) ∧ w.cell? ⟨b, off + k * 4, none⟩ = some (.int .i64 x) ∧ w.cell? ⟨b, off + k * 4 + 1, none⟩ = some (.int .i64 y) ∧
      w.cell? ⟨b, off + k * 4 + 2, none⟩ = some (.int .i64 z) ∧ w.cell? ⟨b, off + k * 4 + 3, none⟩ = some (.int .i64 t) := by
  obtain ⟨b, off, x, e, hb, hx, hc⟩ := RdL.at_ (f := c4) (fun _ => rfl) h hk
  exact ⟨b, off, x.1, x.2.1, x.2.2.1, x.2.2.2, e, hb, hx, hc 0 _ (by omega) rfl, hc 1 _ (by omega) rfl, hc 2 _ (by omega) rfl, hc 3 _ (by omega) rfl⟩

theorem not_t {b : Bool} (h : (!b) = true) : b = false := by cases b <;> simp_all
theorem not_f {b : Bool} (h : (!b) = false) : b = true := by cases b <;> simp_all
/-! ### Bools of the program -/
/-- Equality as a Bool that the walk does not take apart. -/
def eqd {α : Type} [DecidableEq α] (a b : α) : Bool := decide (a = b)
theorem eqd_iff {α : Type} [DecidableEq α] {a b : α} : eqd a b = true ↔ a = b := by unfold eqd; simp
theorem eqd_no {α : Type} [DecidableEq α] {a b : α} : eqd a b = false ↔ a ≠ b := by unfold eqd; simp
theorem take_eq_step {α : Type} {xs ys : List α} {k : Nat} {x y : α} (h : xs.take k = ys.take k) (hx : xs[k]? = some x) (hy : ys[k]? = some y) (e : x = y) : xs.take (k + 1) = ys.take (k + 1) := by
  rw [take_succ_of hx, take_succ_of hy, h, e]
theorem ne_at {α : Type} {xs ys : List α} {k : Nat} {x y : α} (hx : xs[k]? = some x) (hy : ys[k]? = some y) (e : x ≠ y) : xs ≠ ys := by
  rintro rfl; rw [hx] at hy; exact e (Option.some.inj hy)
theorem eq_end {α : Type} {xs ys : List α} {k n : Nat} (h : xs.take k = ys.take k) (hx : xs.length = n) (hy : ys.length = n) (hk : n ≤ k) : xs = ys := by
  rw [List.take_of_length_le (by omega), List.take_of_length_le (by omega)] at h; exact h
theorem ne_len {α : Type} {xs ys : List α} {n m : Nat} (hx : xs.length = n) (hy : ys.length = m) (h : n ≠ m) : xs ≠ ys := by
  rintro rfl; omega

def inB (lo hi n : Int) : Bool := decide (lo ≤ n) && decide (n ≤ hi)
theorem inB_lo {lo hi n : Int} (h : n < lo) : inB lo hi n = false := by unfold inB; rw [decide_eq_false (by omega)]; rfl
theorem inB_hi {lo hi n : Int} (h : lo ≤ n) : inB lo hi n = decide (n ≤ hi) := by unfold inB; rw [decide_eq_true h]; rfl
theorem inB_iff {lo hi n : Int} : inB lo hi n = true ↔ lo ≤ n ∧ n ≤ hi := by unfold inB; simp
theorem inB_no {lo hi n : Int} : inB lo hi n = false ↔ n < lo ∨ hi < n := by
  unfold inB; simp only [Bool.and_eq_false_iff, decide_eq_false_iff_not]; omega
end Go.Proofs.YtnjifhlabbejoaaGreatDoor
