/- A region that draws its order and ends in stores in one forced order: what comes ahead of them may be taken in any order while a condition S holds; then the tail. Two appends in one such region. -/
import Derived.Test.YtkldejbhhbgefaaPk
import Derived.Test.YtkldejbhhbgefaaFlInt
import Derived.Deep.RegionHeld3
import Derived.Deep.AppendLies
import Derived.StillTail
namespace Go.Proofs.Ytkldejbhhbgefaa
open Go.RowKit
set_option linter.unusedVariables false
section
variable {P : Program} {ops : Array Oper} {Q : Exit → Act → World → Prop} {md : Region.Mode} {S : World → Prop} {D : Array Bool} {L : Act → World → Prop}
def wpAnyT (P : Program) (md : Region.Mode) (ops : Array Oper) (Q : Exit → Act → World → Prop) (S : World → Prop) (D : Array Bool) (L : Act → World → Prop) : Nat → Array Bool → Act → World → Prop
  | 0, listed, a, w => listed = D ∧ L a w
  | f + 1, listed, a, w => Region.ready md ops listed ≠ [] ∧ ∀ i ∈ Region.ready md ops listed, wpOp P ops Q i (fun a' w' => S w' ∧ wpAnyT P md ops Q S D L f (listed.setIfInBounds i true) a' w') a w
theorem wpAny_of_T {g : Nat} (hL : ∀ a w, L a w → wpAny P md ops Q g D a w) : ∀ (f : Nat) (listed : Array Bool) (a : Act) (w : World), wpAnyT P md ops Q S D L f listed a w → wpAny P md ops Q (f + g) listed a w
  | 0, listed, a, w, h => by obtain ⟨rfl, h⟩ := h; rw [Nat.zero_add]; exact hL _ _ h
  | f + 1, listed, a, w, h => by
    rw [show f + 1 + g = (f + g) + 1 by omega]
    exact ⟨fun h0 => absurd h0 h.1, fun i hi => wpOp_mono (fun a' w' h' => wpAny_of_T hL f _ a' w' h'.2) (h.2 i hi)⟩
/-- The tail: its operations, one after the other. -/
def seqL (md : Region.Mode) (ops : Array Oper) : List Nat → Array Bool → Bool
  | [], listed => (Region.ready md ops listed).isEmpty
  | i :: r, listed => decide (Region.ready md ops listed = [i]) && seqL md ops r (listed.setIfInBounds i true)
theorem wpAny_of_list (is : List Nat) : ∀ (l : List Oper) (listed : Array Bool) (a : Act) (w : World), seqL md ops is listed = true → is.map (fun i => ops[i]?) = l.map some → wpList P ops Q l a w → wpAny P md ops Q is.length listed a w := by
  induction is with
  | nil =>
    intro l listed a w hB hm h
    cases l with
    | nil => exact ⟨by simpa [seqL] using hB, h⟩
    | cons o l => simp at hm
  | cons i is ih =>
    intro l listed a w hB hm h
    cases l with
    | nil => simp at hm
    | cons o l =>
      simp only [List.map_cons, List.cons.injEq] at hm
      simp only [seqL, Bool.and_eq_true, decide_eq_true_eq] at hB
      rw [List.length_cons]
      refine ⟨fun h1 => (by rw [hB.1] at h1; cases h1), fun j hj => ?_⟩
      rw [hB.1] at hj
      have hji : j = i := by simpa using hj
      subst hji
      have hw : wpOp P ops Q j (wpList P ops Q l) a w := by unfold wpOp; simp only [hm.1]; exact h
      exact wpOp_mono (fun a' w' h' => ih l _ a' w' hB.2 hm.2 h') hw
def closedB (md : Region.Mode) (ops : Array Oper) (listed : Array Bool) : Bool :=
  (List.range ops.size).all fun j => !listed.getD j false || match ops[j]? with
    | some oj => oj.after.all fun e => !Region.binds md e || listed.getD e.on false
    | none => true
theorem closedB_iff {listed : Array Bool} (hs : listed.size = ops.size) : closedB md ops listed = true ↔ ∀ j oj, ops[j]? = some oj → listed.getD j false = true → ∀ e ∈ oj.after, Region.binds md e = true → listed.getD e.on false = true := by
  unfold closedB
  rw [List.all_eq_true]
  constructor
  · intro h j oj hj hl e he hb
    have h1 := h j (List.mem_range.2 (Array.getElem?_eq_some_iff.1 hj).1)
    rw [hl] at h1
    simp only [Bool.not_true, Bool.false_or, hj] at h1
    have h2 := Array.all_eq_true'.1 h1 e he
    rw [hb] at h2
    simpa using h2
  · intro h j hj
    cases hl : listed.getD j false with
    | false => simp
    | true =>
      have hj' := List.mem_range.1 hj
      simp only [Bool.not_true, Bool.false_or, Array.getElem?_eq_getElem hj']
      refine Array.all_eq_true'.2 (fun e he => ?_)
      cases hb : Region.binds md e with
      | false => rfl
      | true => simpa using h j _ (Array.getElem?_eq_getElem hj') hl e he hb
theorem unset_set {listed : Array Bool} {i : Nat} (h : listed.getD i true = false) : (listed.setIfInBounds i true).setIfInBounds i false = listed := by
  have hi : i < listed.size := by
    rcases Nat.lt_or_ge i listed.size with h' | h'
    · exact h'
    · simp [Array.getElem?_eq_none h'] at h
  apply Array.ext_getElem?
  intro j
  rw [Array.getElem?_setIfInBounds, Array.getElem?_setIfInBounds]
  by_cases e : i = j
  · subst e; simp [hi] at h ⊢; exact h
  · simp [e]
theorem wpAnyT_first {i : Nat} {oi : Oper} {v : Value} (hi : ops[i]? = some oi) (hsel : ∀ (j : Nat) (o : Oper) cs b, ops[j]? = some o → o.op ≠ .select cs b)
    (hQ : ∀ c a w, Q (.panic c) (a.put oi.dst v) w → Q (.panic c) a w) (hD : closedB md ops (D.setIfInBounds i false) = false ∨ Region.ready md ops (D.setIfInBounds i false) = [i]) :
    ∀ (fuel : Nat) (listed : Array Bool) (a : Act) (w : World), listed.size = ops.size → closedB md ops listed = true →
      (∀ j oj, ops[j]? = some oj → j ≠ i → listed.getD j true = false → (∀ e ∈ oj.after, Region.binds md e = true → e.on ≠ i) → oi.apart ops oj = true) →
      i ∈ Region.ready md ops listed → YieldsIf P ops S oi v a → S w →
      wpAnyT P md ops Q S D L fuel (listed.setIfInBounds i true) (a.put oi.dst v) w → wpAnyT P md ops Q S D L (fuel + 1) listed a w := by
  intro fuel
  induction fuel with
  | zero =>
    intro listed a w hsz hcl _ hr hy hS H
    refine ⟨fun h => (by rw [h] at hr; cases hr), fun j hj => ?_⟩
    by_cases hji : j = i
    · subst hji; exact hy.wpOp hi hS ⟨hS, H⟩
    · have he := unset_set (mem_ready.1 hr).1
      rw [H.1] at he
      rw [he] at hD
      rcases hD with hD | hD
      · rw [hD] at hcl; cases hcl
      · rw [hD] at hj; simp at hj; exact absurd hj hji
  | succ fuel ih =>
    intro listed a w hsz hcl hfree hr hy hS H
    refine ⟨fun h => (by rw [h] at hr; cases hr), fun j hj => ?_⟩
    by_cases hji : j = i
    · subst hji; exact hy.wpOp hi hS ⟨hS, H⟩
    · have h1 := H.2 j (ready_mono hj hji)
      obtain ⟨hjun, oj, hoj, hall⟩ := mem_ready.1 hj
      have hnot : ∀ e ∈ oj.after, Region.binds md e = true → e.on ≠ i := fun e he hb heq => by
        have h1 := hall e he hb
        have h0 := (mem_ready.1 hr).1
        rw [heq] at h1
        rcases Nat.lt_or_ge i listed.size with h' | h'
        · simp [h'] at h0 h1; rw [h0] at h1; cases h1
        · simp [Array.getElem?_eq_none h'] at h1
      have h2 := wpOp_putIf hoj (hfree j oj hoj hji hjun hnot) (fun cs b => hsel i oi cs b hi) (fun cs b => hsel j oj cs b hoj) hQ hy h1
      have hfree' : ∀ k ok, ops[k]? = some ok → k ≠ i → (listed.setIfInBounds j true).getD k true = false →
          (∀ e ∈ ok.after, Region.binds md e = true → e.on ≠ i) → oi.apart ops ok = true := fun k ok hk hki hun hno => by
        refine hfree k ok hk hki ?_ hno
        by_cases hjk : j = k
        · subst hjk; exact hjun
        · rw [getD_set_ne true hjk] at hun; exact hun
      have hcl' : closedB md ops (listed.setIfInBounds j true) = true := by
        rw [closedB_iff (by simp [hsz])]
        rw [closedB_iff hsz] at hcl
        intro k ok hk hl e he hb
        by_cases hjk : j = k
        · subst hjk
          have : ok = oj := Option.some.inj (hk.symm.trans hoj)
          subst this
          exact getD_set_true (hall e he hb)
        · rw [getD_set_ne false hjk] at hl
          exact getD_set_true (hcl k ok hk hl e he hb)
      refine wpOp_mono (fun a' w' h3 => ⟨h3.2.1, ih (listed.setIfInBounds j true) a' w' (by simp [hsz]) hcl' hfree' (ready_mono hr (Ne.symm hji)) h3.1 h3.2.1 ?_⟩) h2
      rw [Array.setIfInBounds_comm _ _ hji]
      exact h3.2.2
def maxB (md : Region.Mode) (ops : Array Oper) (D : Array Bool) (i : Nat) : Bool := !closedB md ops (D.setIfInBounds i false) || decide (Region.ready md ops (D.setIfInBounds i false) = [i])
theorem wpAnyT_take {i : Nat} {oi : Oper} {v : Value} {fuel : Nat} {listed : Array Bool} {a : Act} {w : World} (hi : ops[i]? = some oi)
    (hs : Region.noSelect ops = true) (hf : Region.free md ops listed i = true) (hr : (Region.ready md ops listed).contains i = true) (hc : closedB md ops listed = true) (hz : listed.size = ops.size) (hD : maxB md ops D i = true)
    (hQ : ∀ c a w, Q (.panic c) (a.put oi.dst v) w → Q (.panic c) a w) (hy : YieldsIf P ops S oi v a) (hS : S w)
    (h : wpAnyT P md ops Q S D L fuel (listed.setIfInBounds i true) (a.put oi.dst v) w) : wpAnyT P md ops Q S D L (fuel + 1) listed a w :=
  wpAnyT_first hi (Region.noSelect_spec hs) hQ (by unfold maxB at hD; simpa using hD) fuel listed a w hz hc (Region.free_spec hi hf) (by simpa using hr) hy hS h
theorem wpAnyT_ready {rs : List Nat} {fuel : Nat} {listed : Array Bool} {a : Act} {w : World} (hr : Region.ready md ops listed = rs) (hne : rs ≠ [])
    (h : ∀ i ∈ rs, wpOp P ops Q i (fun a' w' => S w' ∧ wpAnyT P md ops Q S D L fuel (listed.setIfInBounds i true) a' w') a w) : wpAnyT P md ops Q S D L (fuel + 1) listed a w :=
  ⟨fun h0 => absurd (hr ▸ h0) hne, hr ▸ h⟩
theorem wp_region_T {id : Nat} {a : Act} {w : World} {is : List Nat} {l : List Oper} {n : Nat} (hm : P.follows .mixedOrders = true) (hn : n + is.length = ops.size) (hB : seqL .any ops is D = true) (hl : is.map (fun i => ops[i]?) = l.map some)
    (hS : S w.drew) (h : S w.drew → wpAnyT P .any ops Q S D (wpList P ops Q l) n (Array.replicate (n + is.length) false) a w.drew) : (Code.region id ops true).wp P Q a w := by
  refine wp_region_any hm ?_
  rw [hn] at h
  rw [← hn]
  have := wpAny_of_T (g := is.length) (fun a w h' => wpAny_of_list is l D a w hB hl h') n _ a _ (h hS)
  rw [hn] at this ⊢
  exact this
end
theorem eval_ne {a : Act} {d t : Tmp} {v : Value} (h : d ≠ t) : (a.put (some d) v).eval (.tmp t) = a.eval (.tmp t) := Act.eval_put (fun e he hx => by cases he; cases hx; exact h rfl)
theorem eval_eq {a : Act} {d : Tmp} {v : Value} (h : d < a.tmps.size) : (a.put (some d) v).eval (.tmp d) = v := by simp [Act.put, Act.eval, Array.getD, h]
theorem put_size (a : Act) (d : Option Tmp) (v : Value) : (a.put d v).tmps.size = a.tmps.size := by cases d <;> simp [Act.put]
set_option maxRecDepth 100000 in
/-- append([]int64{..}, x): the element is laid into a block of its own. -/
theorem step_build {ops : Array Oper} {o : Oper} {a : Act} {w : World} {Q : Exit → Act → World → Prop} {K : Act → World → Prop} {E : Prop} (hgd : o.guard = none) (x : Operand) (v : Int)
    (ho : o.op = .buildSlice 26 1 #[(0, x)]) (hx : a.eval x = .int .i64 v)
    (k : K (a.put o.dst (.slice (some ⟨w.heap.size, 0, none⟩) 1 1)) (w.alloc (.cells #[.int .i64 v] 2))) : if Region.wanted o (yielded ops a.tmps) = true then Oper.wp Try.prog o a w K Q else E := by
  have hw : Region.wanted o (yielded ops a.tmps) = true := by simp [Region.wanted, hgd]
  rw [if_pos hw]
  unfold Oper.wp execOp
  simp only [ho, List.map_toArray, List.map_cons, List.map_nil, hx]
  go_simp
  exact k
/-- No block in common. -/
def djB (A B : Option Addr) : Prop := ∀ a b, A = some a → B = some b → a.block ≠ b.block
/-- Only newer blocks, and those of A and B, may have changed. -/
structure Ev2 (w w' : World) (A B : Option Addr) : Prop where
  os : w'.os = w.os
  tape : w'.tape = w.tape
  output : w'.output = w.output
  size : w.heap.size ≤ w'.heap.size
  block : ∀ b, b < w.heap.size → (∀ a, A = some a → a.block ≠ b) → (∀ a, B = some a → a.block ≠ b) → w'.heap[b]? = w.heap[b]?
/-- Where a row that grew lies: where it lay, or in a new block. -/
def frB (w : World) (A A' : Option Addr) : Prop := ∀ a', A' = some a' → (∃ a, A = some a ∧ a.block = a'.block) ∨ w.heap.size ≤ a'.block
theorem Ev2.refl (w : World) (A B : Option Addr) : Ev2 w w A B := ⟨rfl, rfl, rfl, Nat.le_refl _, fun _ _ _ _ => rfl⟩
theorem Ev2.alloc {w w' : World} {A B : Option Addr} (h : Ev2 w w' A B) (o : Obj) : Ev2 w (w'.alloc o) A B :=
  ⟨h.os, h.tape, h.output, by rw [World.size_alloc]; have := h.size; omega, fun b hb h1 h2 => (Below.heap_alloc w' o b (Nat.lt_of_lt_of_le hb h.size)).trans (h.block b hb h1 h2)⟩
theorem Ev2.grown {w w' w'' : World} {A B : Option Addr} (h : Ev2 w w' A B) {n c : Nat} {C : Option Addr} (hg : w'.grownBy w'' (Value.slice C n c).ownBlock) (hC : C = A ∨ C = B) : Ev2 w w'' A B :=
  ⟨hg.os.trans h.os, hg.tape.trans h.tape, hg.output.trans h.output, Nat.le_trans h.size hg.size, fun b hb h1 h2 => (hg.block b (Nat.lt_of_lt_of_le hb h.size) (by
    cases C with
    | none => simp [Value.ownBlock]
    | some ad =>
      simp only [Value.ownBlock, ne_eq, Option.some.injEq]
      intro e
      rcases hC with hC | hC
      · exact h1 ad hC.symm e.symm
      · exact h2 ad hC.symm e.symm)).trans (h.block b hb h1 h2)⟩
theorem Ev2.below {w w' : World} {A B : Option Addr} (h : Ev2 w w' A B) {base : Nat} (hb : base ≤ w.heap.size) (hA : ∀ a, A = some a → base ≤ a.block) (hB : ∀ a, B = some a → base ≤ a.block) : Below base w w' :=
  ⟨h.os, h.tape, h.output, h.size, fun b hlt => h.block b (by omega) (fun a ha e => by have := hA a ha; omega) (fun a ha e => by have := hB a ha; omega)⟩
theorem Ev2.cell {w w' : World} {A B : Option Addr} (h : Ev2 w w' A B) {b o : Nat} {v : Value} (hv : w.cell? ⟨b, o, none⟩ = some v) (hA : ∀ a, A = some a → a.block ≠ b) (hB : ∀ a, B = some a → a.block ≠ b) : w'.cell? ⟨b, o, none⟩ = some v :=
  (World.cell?_of_block (a := ⟨b, o, none⟩) (h.block b (World.block_lt_of_cell? w _ hv) hA hB)).trans hv
theorem Ev2.own {w w' : World} {A B : Option Addr} (h : Ev2 w w' A B) {base : Nat} {e : TypeId} {s n m c : Nat} {C : Option Addr} {xs : List Value} (ho : w.ownsRow base e s (.slice C m c) n xs) (hA : djB A C) (hB : djB B C) : w'.ownsRow base e s (.slice C m c) n xs := by
  obtain ⟨h1, h2⟩ := ho
  refine ⟨h1, ?_⟩
  rcases h2 with h2 | ⟨g, cap, cur, hv, hg, hh, r⟩
  · exact .inl h2
  · cases hv
    exact .inr ⟨_, _, _, rfl, hg, (h.block g (Array.getElem?_eq_some_iff.1 hh).1 (fun a ha => hA a _ ha rfl) (fun a ha => hB a _ ha rfl)).trans hh, r⟩
theorem Ev2.blk {w w' : World} {A B : Option Addr} (h : Ev2 w w' A B) {g : Nat} {t : TypeId} {cs : Array Value} (hb : Blk w g t cs) (hA : ∀ a, A = some a → a.block ≠ g) (hB : ∀ a, B = some a → a.block ≠ g) : Blk w' g t cs := (h.block g hb.lt hA hB).trans hb
theorem Ev2.refl' {w w' : World} (h : Below w.heap.size w w') (A B : Option Addr) : Ev2 w w' A B := ⟨h.os, h.tape, h.output, h.size, fun b hb _ _ => h.block b hb⟩
theorem own_blk {w : World} {base : Nat} {e : TypeId} {s n m c : Nat} {A : Option Addr} {xs : List Value} (h : w.ownsRow base e s (.slice A m c) n xs) : ∀ a, A = some a → base ≤ a.block ∧ a.block < w.heap.size := fun a ha => h.lt a.block (by rw [ha]; rfl)
theorem djB.sym {A B : Option Addr} (h : djB A B) : djB B A := fun a b ha hb e => h b a hb ha e.symm
/-- Rows stay apart where they grow. -/
theorem djB.fr {w : World} {A B A' B' : Option Addr} (h : djB A B) (hA : frB w A A') (hB : B' = B) (hlt : ∀ b, B = some b → b.block < w.heap.size) : djB A' B' := by
  subst hB
  intro a b ha hb e
  rcases hA a ha with ⟨a0, h0, h1⟩ | h0
  · exact h a0 b h0 hb (by omega)
  · have := hlt b hb; omega
theorem own_apart {w w' : World} {base : Nat} {e : TypeId} {s n m c c' k : Nat} {A B : Option Addr} {xs : List Value} (h : w.ownsRow base e s (.slice A m c) n xs) (hg : w.grownBy w' (Value.slice B k c').ownBlock) (hd : djB A B) : w'.ownsRow base e s (.slice A m c) n xs := by
  refine h.kept hg ?_
  cases A with
  | none => exact .inl rfl
  | some a =>
    cases B with
    | none => exact .inr (by simp [Value.ownBlock])
    | some b => exact .inr (by have := hd a b rfl rfl; simp [Value.ownBlock]; exact this)
theorem fr_of {w W : World} {A : Option Addr} {n c g H : Nat} (h : (Value.slice A n c).ownBlock = some g ∨ g = H) (hH : w.heap.size ≤ H) : frB w A (some ⟨g, 0, none⟩) := by
  intro a ha; cases ha
  rcases h with h | h
  · cases A with
    | none => simp [Value.ownBlock] at h
    | some a => simp [Value.ownBlock] at h; exact .inl ⟨a, rfl, h⟩
  · exact .inr (by simp only; omega)
theorem nd_ne {l : List Nat} (h : l.Nodup) {i j x y : Nat} (hx : l[i]? = some x) (hy : l[j]? = some y) (hij : i ≠ j) : x ≠ y := by
  obtain ⟨hi, rfl⟩ := List.getElem?_eq_some_iff.1 hx
  obtain ⟨hj, rfl⟩ := List.getElem?_eq_some_iff.1 hy
  rcases Nat.lt_or_gt_of_ne hij with hlt | hlt
  · exact List.pairwise_iff_getElem.1 h i j hi hj hlt
  · exact (List.pairwise_iff_getElem.1 h j i hj hi hlt).symm
theorem far_of {g n c : Nat} {A : Option Addr} (h : ∀ a, A = some a → a.block ≠ g) : some (⟨g, 0, none⟩ : Addr).block ≠ (Value.slice A n c).ownBlock := by
  cases A with
  | none => simp [Value.ownBlock]
  | some a => have := h a rfl; simp only [Value.ownBlock, ne_eq, Option.some.injEq]; omega
theorem dj_lies {A B : Option Addr} {n c g H : Nat} (h : (Value.slice A n c).ownBlock = some g ∨ g = H) (hd : djB A B) {base : Nat} (hB : ∀ b, B = some b → base ≤ b.block ∧ b.block < H) : djB (some ⟨g, 0, none⟩) B := by
  intro a b ha hb
  cases ha
  rcases h with h | h
  · cases A with
    | none => simp [Value.ownBlock] at h
    | some a => simp [Value.ownBlock] at h; subst h; exact hd a b rfl hb
  · have := hB b hb; simp only; omega
set_option maxHeartbeats 4000000 in
theorem two_pairs {ops : Array Oper} {Q : Exit → Act → World → Prop} {md : Region.Mode} {S : World → Prop} {D : Array Bool} {L : Act → World → Prop} {listed : Array Bool} {a : Act} {w : World}
    (o1 o2 o3 o4 o5 : Oper) (i1 i2 i3 i4 i5 t1 t2 t3 t4 t5 x1 x3 s1 s3 x5 : Nat) (y5v v5 : Value) (h1 : ops[i1]? = some o1) (h2 : ops[i2]? = some o2) (h3 : ops[i3]? = some o3) (h4 : ops[i4]? = some o4) (h5 : ops[i5]? = some o5)
    (d1 : o1.dst = some t1) (d2 : o2.dst = some t2) (d3 : o3.dst = some t3) (d4 : o4.dst = some t4) (g1 : o1.guard = none) (g2 : o2.guard = none) (g3 : o3.guard = none) (g4 : o4.guard = none)
    (p1 : o1.op = .buildSlice 26 1 #[(0, .tmp x1)]) (p2 : o2.op = .call { callee := .builtin .append, args := #[.tmp s1, .tmp t1], argTypes := #[26, 26] })
    (p3 : o3.op = .buildSlice 26 1 #[(0, .tmp x3)]) (p4 : o4.op = .call { callee := .builtin .append, args := #[.tmp s3, .tmp t3], argTypes := #[26, 26] })
    (d5 : o5.dst = some t5) (F5 : ∀ (a' : Act) (w' : World) (K' : Act → World → Prop) (E : Prop), a'.eval (.tmp x5) = y5v → K' (a'.put (some t5) v5) w' → if Region.wanted o5 (yielded ops a'.tmps) = true then Oper.wp Try.prog o5 a' w' K' Q else E)
    (hnd : [t1, t2, t3, t4, x1, x3, s1, s3, t5, x5].Nodup) (hin : [i1, i2, i3, i4, i5].Nodup) (z1 : t1 < a.tmps.size) (z3 : t3 < a.tmps.size)
    (r0 : Region.ready md ops listed = [i1, i3]) (r1 : Region.ready md ops (listed.setIfInBounds i1 true) = [i2, i3]) (r3 : Region.ready md ops (listed.setIfInBounds i3 true) = [i1]) (r12 : Region.ready md ops ((listed.setIfInBounds i1 true).setIfInBounds i2 true) = [i3, i5]) (r13 : Region.ready md ops ((listed.setIfInBounds i1 true).setIfInBounds i3 true) = [i2]) (r123 : Region.ready md ops (((listed.setIfInBounds i1 true).setIfInBounds i2 true).setIfInBounds i3 true) = [i4, i5]) (r125 : Region.ready md ops (((listed.setIfInBounds i1 true).setIfInBounds i2 true).setIfInBounds i5 true) = [i3]) (r1234 : Region.ready md ops ((((listed.setIfInBounds i1 true).setIfInBounds i2 true).setIfInBounds i3 true).setIfInBounds i4 true) = [i5]) (r1235 : Region.ready md ops ((((listed.setIfInBounds i1 true).setIfInBounds i2 true).setIfInBounds i3 true).setIfInBounds i5 true) = [i4])
    (hD : (((((listed.setIfInBounds i1 true).setIfInBounds i2 true).setIfInBounds i3 true).setIfInBounds i4 true).setIfInBounds i5 true) = D)
    (base n m c1' c3' : Nat) (A B : Option Addr) (v1 v3 : Int) (l1 l3 : List Int)
    (e1 : a.eval (.tmp s1) = .slice A n c1') (e3 : a.eval (.tmp s3) = .slice B m c3') (y1 : a.eval (.tmp x1) = .int .i64 v1) (y3 : a.eval (.tmp x3) = .int .i64 v3) (y5 : a.eval (.tmp x5) = y5v)
    (w1 : w.ownsRow base 2 1 (.slice A n c1') n (l1.flatMap c1)) (w3 : w.ownsRow base 2 1 (.slice B m c3') m (l3.flatMap c1)) (hd : djB A B) (hn : n ≤ 1048576) (hm : m ≤ 1048576) (hbase : base ≤ w.heap.size)
    (hS : ∀ w', Ev2 w w' A B → S w')
    (K : ∀ A' B' ca cb u1 u3 w', w'.ownsRow base 2 1 (.slice A' (n + 1) ca) (n + 1) ((l1 ++ [v1]).flatMap c1) → w'.ownsRow base 2 1 (.slice B' (m + 1) cb) (m + 1) ((l3 ++ [v3]).flatMap c1) → djB A' B' → frB w A A' → frB w B B' → Ev2 w w' A B →
      L (((((a.put (some t1) u1).put (some t2) (.slice A' (n + 1) ca)).put (some t3) u3).put (some t4) (.slice B' (m + 1) cb)).put (some t5) v5) w') :
    wpAnyT Try.prog md ops Q S D L 5 listed a w := by
  obtain ⟨i0, hi, hz0, hz1, hz2⟩ := info_parts Try.infoInt64
  have sw : ∀ (a : Act) (x y : Nat) (u v : Value), x ≠ y → (a.put (some x) u).put (some y) v = (a.put (some y) v).put (some x) u := fun a x y u v h => Act.put_comm a u v (fun d hd he => by cases hd; cases he; exact h rfl)
  have sc : ∀ (l : Array Bool) (x y : Nat), x ≠ y → (l.setIfInBounds x true).setIfInBounds y true = (l.setIfInBounds y true).setIfInBounds x true := fun l x y h => Array.setIfInBounds_comm _ _ h
  have lA := own_blk w1
  have lB := own_blk w3
  refine wpAnyT_ready r0 (by simp) ?_
  intro i hi'
  simp only [List.mem_cons, List.not_mem_nil, or_false] at hi'
  rcases hi' with hi' | hi'
  · rw [hi']
    clear hi' i
    refine wpOp_step h1 (fun K' hK => ?_)
    refine step_build g1 (.tmp x1) v1 p1 (y1) ?_
    rw [d1]
    have bb1 : Below w.heap.size w (w.alloc (.cells #[.int .i64 v1] 2)) := (Below.refl _ _).alloc (Nat.le_refl _) _
    have EE1 := Ev2.alloc (Ev2.refl w A B) (.cells #[.int .i64 v1] 2)
    have nn1 : (w.alloc (.cells #[.int .i64 v1] 2)).cell? ⟨w.heap.size, 0, none⟩ = some (.int .i64 v1) := (Blk.new w 2 #[.int .i64 v1]).cell 0
    have o11 := own_below w1 bb1
    have o31 := own_below w3 bb1
    have zz1 := ((Ev2.refl w A B)).size
    refine hK _ _ ⟨hS _ EE1, ?_⟩
    obtain ⟨G1, hG1⟩ : ∃ G, G = w.heap.size := ⟨_, rfl⟩
    rw [← hG1] at nn1 zz1 ⊢
    generalize w.alloc (.cells #[.int .i64 v1] 2) = W1 at *
    refine wpAnyT_ready r1 (by simp) ?_
    intro i hi'
    simp only [List.mem_cons, List.not_mem_nil, or_false] at hi'
    rcases hi' with hi' | hi'
    · rw [hi']
      clear hi' i
      refine wpOp_step h2 (fun K' hK => ?_)
      refine step_append_lies _ g2 (.tmp s1) (.tmp t1) _ p2 base 2 i0 _ 1 8 Try.underlying26 hi hz0 hz1 hz2 rfl (by decide) _ n _ ((by rw [eval_ne (nd_ne hnd (i := 0) (j := 6) rfl rfl (by decide))]; exact e1)) o11 ⟨G1, 0, none⟩ 1 1 [.int .i64 v1] ((by rw [eval_eq (by first | exact z1 | (simp only [put_size]; exact z1))])) rfl ?_ (by intro u hu; simp at hu; subst hu; rfl) (by decide) (by unfold maxLen; omega) (by omega) (by have := (EE1).size; omega) _ rfl ?_
      · intro j u hu
        match j, hu with
        | 0, hu => cases hu; exact nn1
      intro g12 cap12 W12 k12 hg12 hl12 ht12
      rw [d2]
      have EE12 := Ev2.grown EE1 hg12 (.inl rfl)
      have f12 : frB w A (some ⟨g12, 0, none⟩) := fr_of (W := w) hl12 (EE1).size
      have o312 := own_apart o31 hg12 (hd.sym)
      have j12 := dj_lies hl12 (hd) (own_blk o31)
      refine hK _ _ ⟨hS _ EE12, ?_⟩
      refine wpAnyT_ready r12 (by simp) ?_
      intro i hi'
      simp only [List.mem_cons, List.not_mem_nil, or_false] at hi'
      rcases hi' with hi' | hi'
      · rw [hi']
        clear hi' i
        refine wpOp_step h3 (fun K' hK => ?_)
        refine step_build g3 (.tmp x3) v3 p3 ((by rw [eval_ne (nd_ne hnd (i := 1) (j := 5) rfl rfl (by decide)), eval_ne (nd_ne hnd (i := 0) (j := 5) rfl rfl (by decide))]; exact y3)) ?_
        rw [d3]
        have bb123 : Below W12.heap.size W12 (W12.alloc (.cells #[.int .i64 v3] 2)) := (Below.refl _ _).alloc (Nat.le_refl _) _
        have EE123 := Ev2.alloc EE12 (.cells #[.int .i64 v3] 2)
        have nn123 : (W12.alloc (.cells #[.int .i64 v3] 2)).cell? ⟨W12.heap.size, 0, none⟩ = some (.int .i64 v3) := (Blk.new W12 2 #[.int .i64 v3]).cell 0
        have o1123 := own_below k12 bb123
        have o3123 := own_below o312 bb123
        have zz123 := (EE12).size
        refine hK _ _ ⟨hS _ EE123, ?_⟩
        obtain ⟨G123, hG123⟩ : ∃ G, G = W12.heap.size := ⟨_, rfl⟩
        rw [← hG123] at nn123 zz123 ⊢
        generalize W12.alloc (.cells #[.int .i64 v3] 2) = W123 at *
        refine wpAnyT_ready r123 (by simp) ?_
        intro i hi'
        simp only [List.mem_cons, List.not_mem_nil, or_false] at hi'
        rcases hi' with hi' | hi'
        · rw [hi']
          clear hi' i
          refine wpOp_step h4 (fun K' hK => ?_)
          refine step_append_lies _ g4 (.tmp s3) (.tmp t3) _ p4 base 2 i0 _ 1 8 Try.underlying26 hi hz0 hz1 hz2 rfl (by decide) _ m _ ((by rw [eval_ne (nd_ne hnd (i := 2) (j := 7) rfl rfl (by decide)), eval_ne (nd_ne hnd (i := 1) (j := 7) rfl rfl (by decide)), eval_ne (nd_ne hnd (i := 0) (j := 7) rfl rfl (by decide))]; exact e3)) o3123 ⟨G123, 0, none⟩ 1 1 [.int .i64 v3] ((by rw [eval_eq (by first | exact z3 | (simp only [put_size]; exact z3))])) rfl ?_ (by intro u hu; simp at hu; subst hu; rfl) (by decide) (by unfold maxLen; omega) (by omega) (by have := (EE123).size; omega) _ rfl ?_
          · intro j u hu
            match j, hu with
            | 0, hu => cases hu; exact nn123
          intro g1234 cap1234 W1234 k1234 hg1234 hl1234 ht1234
          rw [d4]
          have EE1234 := Ev2.grown EE123 hg1234 (.inr rfl)
          have f1234 : frB w B (some ⟨g1234, 0, none⟩) := fr_of (W := w) hl1234 (EE123).size
          have o11234 := own_apart o1123 hg1234 (j12)
          have j1234 := (dj_lies hl1234 (j12.sym) (own_blk o1123)).sym
          refine hK _ _ ⟨hS _ EE1234, ?_⟩
          refine wpAnyT_ready r1234 (by simp) ?_
          intro i hi'
          simp only [List.mem_cons, List.not_mem_nil, or_false] at hi'
          rw [hi']
          clear hi' i
          refine wpOp_step h5 (fun K' hK => ?_)
          refine F5 _ _ _ _ ((by rw [eval_ne (nd_ne hnd (i := 3) (j := 9) rfl rfl (by decide)), eval_ne (nd_ne hnd (i := 2) (j := 9) rfl rfl (by decide)), eval_ne (nd_ne hnd (i := 1) (j := 9) rfl rfl (by decide)), eval_ne (nd_ne hnd (i := 0) (j := 9) rfl rfl (by decide))]; exact y5)) ?_
          refine hK _ _ ⟨hS _ EE1234, ?_⟩
          refine ⟨hD, ?_⟩
          exact K _ _ _ _ _ _ _ (by rw [flat_snoc]; exact o11234) (by rw [flat_snoc]; exact k1234) j1234 f12 f1234 EE1234
        · rw [hi']
          clear hi' i
          refine wpOp_step h5 (fun K' hK => ?_)
          refine F5 _ _ _ _ ((by rw [eval_ne (nd_ne hnd (i := 2) (j := 9) rfl rfl (by decide)), eval_ne (nd_ne hnd (i := 1) (j := 9) rfl rfl (by decide)), eval_ne (nd_ne hnd (i := 0) (j := 9) rfl rfl (by decide))]; exact y5)) ?_
          refine hK _ _ ⟨hS _ EE123, ?_⟩
          refine wpAnyT_ready r1235 (by simp) ?_
          intro i hi'
          simp only [List.mem_cons, List.not_mem_nil, or_false] at hi'
          rw [hi']
          clear hi' i
          refine wpOp_step h4 (fun K' hK => ?_)
          refine step_append_lies _ g4 (.tmp s3) (.tmp t3) _ p4 base 2 i0 _ 1 8 Try.underlying26 hi hz0 hz1 hz2 rfl (by decide) _ m _ ((by rw [eval_ne (nd_ne hnd (i := 8) (j := 7) rfl rfl (by decide)), eval_ne (nd_ne hnd (i := 2) (j := 7) rfl rfl (by decide)), eval_ne (nd_ne hnd (i := 1) (j := 7) rfl rfl (by decide)), eval_ne (nd_ne hnd (i := 0) (j := 7) rfl rfl (by decide))]; exact e3)) o3123 ⟨G123, 0, none⟩ 1 1 [.int .i64 v3] ((by rw [eval_ne (nd_ne hnd (i := 8) (j := 2) rfl rfl (by decide)), eval_eq (by first | exact z3 | (simp only [put_size]; exact z3))])) rfl ?_ (by intro u hu; simp at hu; subst hu; rfl) (by decide) (by unfold maxLen; omega) (by omega) (by have := (EE123).size; omega) _ rfl ?_
          · intro j u hu
            match j, hu with
            | 0, hu => cases hu; exact nn123
          intro g12354 cap12354 W12354 k12354 hg12354 hl12354 ht12354
          rw [d4]
          have EE12354 := Ev2.grown EE123 hg12354 (.inr rfl)
          have f12354 : frB w B (some ⟨g12354, 0, none⟩) := fr_of (W := w) hl12354 (EE123).size
          have o112354 := own_apart o1123 hg12354 (j12)
          have j12354 := (dj_lies hl12354 (j12.sym) (own_blk o1123)).sym
          refine hK _ _ ⟨hS _ EE12354, ?_⟩
          rw [sc _ i5 i4 (nd_ne hin (i := 4) (j := 3) rfl rfl (by decide))]
          refine ⟨hD, ?_⟩
          rw [sw _ t5 t4 _ _ (nd_ne hnd (i := 8) (j := 3) rfl rfl (by decide))]
          exact K _ _ _ _ _ _ _ (by rw [flat_snoc]; exact o112354) (by rw [flat_snoc]; exact k12354) j12354 f12 f12354 EE12354
      · rw [hi']
        clear hi' i
        refine wpOp_step h5 (fun K' hK => ?_)
        refine F5 _ _ _ _ ((by rw [eval_ne (nd_ne hnd (i := 1) (j := 9) rfl rfl (by decide)), eval_ne (nd_ne hnd (i := 0) (j := 9) rfl rfl (by decide))]; exact y5)) ?_
        refine hK _ _ ⟨hS _ EE12, ?_⟩
        refine wpAnyT_ready r125 (by simp) ?_
        intro i hi'
        simp only [List.mem_cons, List.not_mem_nil, or_false] at hi'
        rw [hi']
        clear hi' i
        refine wpOp_step h3 (fun K' hK => ?_)
        refine step_build g3 (.tmp x3) v3 p3 ((by rw [eval_ne (nd_ne hnd (i := 8) (j := 5) rfl rfl (by decide)), eval_ne (nd_ne hnd (i := 1) (j := 5) rfl rfl (by decide)), eval_ne (nd_ne hnd (i := 0) (j := 5) rfl rfl (by decide))]; exact y3)) ?_
        rw [d3]
        have bb1253 : Below W12.heap.size W12 (W12.alloc (.cells #[.int .i64 v3] 2)) := (Below.refl _ _).alloc (Nat.le_refl _) _
        have EE1253 := Ev2.alloc EE12 (.cells #[.int .i64 v3] 2)
        have nn1253 : (W12.alloc (.cells #[.int .i64 v3] 2)).cell? ⟨W12.heap.size, 0, none⟩ = some (.int .i64 v3) := (Blk.new W12 2 #[.int .i64 v3]).cell 0
        have o11253 := own_below k12 bb1253
        have o31253 := own_below o312 bb1253
        have zz1253 := (EE12).size
        refine hK _ _ ⟨hS _ EE1253, ?_⟩
        obtain ⟨G1253, hG1253⟩ : ∃ G, G = W12.heap.size := ⟨_, rfl⟩
        rw [← hG1253] at nn1253 zz1253 ⊢
        generalize W12.alloc (.cells #[.int .i64 v3] 2) = W1253 at *
        rw [sc _ i5 i3 (nd_ne hin (i := 4) (j := 2) rfl rfl (by decide))]
        refine wpAnyT_ready r1235 (by simp) ?_
        intro i hi'
        simp only [List.mem_cons, List.not_mem_nil, or_false] at hi'
        rw [hi']
        clear hi' i
        refine wpOp_step h4 (fun K' hK => ?_)
        refine step_append_lies _ g4 (.tmp s3) (.tmp t3) _ p4 base 2 i0 _ 1 8 Try.underlying26 hi hz0 hz1 hz2 rfl (by decide) _ m _ ((by rw [eval_ne (nd_ne hnd (i := 2) (j := 7) rfl rfl (by decide)), eval_ne (nd_ne hnd (i := 8) (j := 7) rfl rfl (by decide)), eval_ne (nd_ne hnd (i := 1) (j := 7) rfl rfl (by decide)), eval_ne (nd_ne hnd (i := 0) (j := 7) rfl rfl (by decide))]; exact e3)) o31253 ⟨G1253, 0, none⟩ 1 1 [.int .i64 v3] ((by rw [eval_eq (by first | exact z3 | (simp only [put_size]; exact z3))])) rfl ?_ (by intro u hu; simp at hu; subst hu; rfl) (by decide) (by unfold maxLen; omega) (by omega) (by have := (EE1253).size; omega) _ rfl ?_
        · intro j u hu
          match j, hu with
          | 0, hu => cases hu; exact nn1253
        intro g12534 cap12534 W12534 k12534 hg12534 hl12534 ht12534
        rw [d4]
        have EE12534 := Ev2.grown EE1253 hg12534 (.inr rfl)
        have f12534 : frB w B (some ⟨g12534, 0, none⟩) := fr_of (W := w) hl12534 (EE1253).size
        have o112534 := own_apart o11253 hg12534 (j12)
        have j12534 := (dj_lies hl12534 (j12.sym) (own_blk o11253)).sym
        refine hK _ _ ⟨hS _ EE12534, ?_⟩
        rw [sc _ i5 i4 (nd_ne hin (i := 4) (j := 3) rfl rfl (by decide))]
        refine ⟨hD, ?_⟩
        rw [sw _ t5 t3 _ _ (nd_ne hnd (i := 8) (j := 2) rfl rfl (by decide))]
        rw [sw _ t5 t4 _ _ (nd_ne hnd (i := 8) (j := 3) rfl rfl (by decide))]
        exact K _ _ _ _ _ _ _ (by rw [flat_snoc]; exact o112534) (by rw [flat_snoc]; exact k12534) j12534 f12 f12534 EE12534
    · rw [hi']
      clear hi' i
      refine wpOp_step h3 (fun K' hK => ?_)
      refine step_build g3 (.tmp x3) v3 p3 ((by rw [eval_ne (nd_ne hnd (i := 0) (j := 5) rfl rfl (by decide))]; exact y3)) ?_
      rw [d3]
      have bb13 : Below W1.heap.size W1 (W1.alloc (.cells #[.int .i64 v3] 2)) := (Below.refl _ _).alloc (Nat.le_refl _) _
      have EE13 := Ev2.alloc EE1 (.cells #[.int .i64 v3] 2)
      have nn13 : (W1.alloc (.cells #[.int .i64 v3] 2)).cell? ⟨W1.heap.size, 0, none⟩ = some (.int .i64 v3) := (Blk.new W1 2 #[.int .i64 v3]).cell 0
      have o113 := own_below o11 bb13
      have o313 := own_below o31 bb13
      have q113 := cell_on nn1 bb13
      have zz13 := (EE1).size
      refine hK _ _ ⟨hS _ EE13, ?_⟩
      obtain ⟨G13, hG13⟩ : ∃ G, G = W1.heap.size := ⟨_, rfl⟩
      rw [← hG13] at nn13 zz13 ⊢
      generalize W1.alloc (.cells #[.int .i64 v3] 2) = W13 at *
      refine wpAnyT_ready r13 (by simp) ?_
      intro i hi'
      simp only [List.mem_cons, List.not_mem_nil, or_false] at hi'
      rw [hi']
      clear hi' i
      refine wpOp_step h2 (fun K' hK => ?_)
      refine step_append_lies _ g2 (.tmp s1) (.tmp t1) _ p2 base 2 i0 _ 1 8 Try.underlying26 hi hz0 hz1 hz2 rfl (by decide) _ n _ ((by rw [eval_ne (nd_ne hnd (i := 2) (j := 6) rfl rfl (by decide)), eval_ne (nd_ne hnd (i := 0) (j := 6) rfl rfl (by decide))]; exact e1)) o113 ⟨G1, 0, none⟩ 1 1 [.int .i64 v1] ((by rw [eval_ne (nd_ne hnd (i := 2) (j := 0) rfl rfl (by decide)), eval_eq (by first | exact z1 | (simp only [put_size]; exact z1))])) rfl ?_ (by intro u hu; simp at hu; subst hu; rfl) (by decide) (by unfold maxLen; omega) (by omega) (by have := (EE13).size; omega) _ rfl ?_
      · intro j u hu
        match j, hu with
        | 0, hu => cases hu; exact q113
      intro g132 cap132 W132 k132 hg132 hl132 ht132
      rw [d2]
      have EE132 := Ev2.grown EE13 hg132 (.inl rfl)
      have f132 : frB w A (some ⟨g132, 0, none⟩) := fr_of (W := w) hl132 (EE13).size
      have o3132 := own_apart o313 hg132 (hd.sym)
      have j132 := dj_lies hl132 (hd) (own_blk o313)
      have q3132 := (hg132.cell_far ⟨G13, 0, none⟩ (World.block_lt_of_cell? _ _ nn13) (far_of (fun x hx => by have h9 := lA x hx; have h8 := zz13; omega))).trans nn13
      refine hK _ _ ⟨hS _ EE132, ?_⟩
      rw [sc _ i3 i2 (nd_ne hin (i := 2) (j := 1) rfl rfl (by decide))]
      refine wpAnyT_ready r123 (by simp) ?_
      intro i hi'
      simp only [List.mem_cons, List.not_mem_nil, or_false] at hi'
      rcases hi' with hi' | hi'
      · rw [hi']
        clear hi' i
        refine wpOp_step h4 (fun K' hK => ?_)
        refine step_append_lies _ g4 (.tmp s3) (.tmp t3) _ p4 base 2 i0 _ 1 8 Try.underlying26 hi hz0 hz1 hz2 rfl (by decide) _ m _ ((by rw [eval_ne (nd_ne hnd (i := 1) (j := 7) rfl rfl (by decide)), eval_ne (nd_ne hnd (i := 2) (j := 7) rfl rfl (by decide)), eval_ne (nd_ne hnd (i := 0) (j := 7) rfl rfl (by decide))]; exact e3)) o3132 ⟨G13, 0, none⟩ 1 1 [.int .i64 v3] ((by rw [eval_ne (nd_ne hnd (i := 1) (j := 2) rfl rfl (by decide)), eval_eq (by first | exact z3 | (simp only [put_size]; exact z3))])) rfl ?_ (by intro u hu; simp at hu; subst hu; rfl) (by decide) (by unfold maxLen; omega) (by omega) (by have := (EE132).size; omega) _ rfl ?_
        · intro j u hu
          match j, hu with
          | 0, hu => cases hu; exact q3132
        intro g1324 cap1324 W1324 k1324 hg1324 hl1324 ht1324
        rw [d4]
        have EE1324 := Ev2.grown EE132 hg1324 (.inr rfl)
        have f1324 : frB w B (some ⟨g1324, 0, none⟩) := fr_of (W := w) hl1324 (EE132).size
        have o11324 := own_apart k132 hg1324 (j132)
        have j1324 := (dj_lies hl1324 (j132.sym) (own_blk k132)).sym
        refine hK _ _ ⟨hS _ EE1324, ?_⟩
        refine wpAnyT_ready r1234 (by simp) ?_
        intro i hi'
        simp only [List.mem_cons, List.not_mem_nil, or_false] at hi'
        rw [hi']
        clear hi' i
        refine wpOp_step h5 (fun K' hK => ?_)
        refine F5 _ _ _ _ ((by rw [eval_ne (nd_ne hnd (i := 3) (j := 9) rfl rfl (by decide)), eval_ne (nd_ne hnd (i := 1) (j := 9) rfl rfl (by decide)), eval_ne (nd_ne hnd (i := 2) (j := 9) rfl rfl (by decide)), eval_ne (nd_ne hnd (i := 0) (j := 9) rfl rfl (by decide))]; exact y5)) ?_
        refine hK _ _ ⟨hS _ EE1324, ?_⟩
        refine ⟨hD, ?_⟩
        rw [sw _ t3 t2 _ _ (nd_ne hnd (i := 2) (j := 1) rfl rfl (by decide))]
        exact K _ _ _ _ _ _ _ (by rw [flat_snoc]; exact o11324) (by rw [flat_snoc]; exact k1324) j1324 f132 f1324 EE1324
      · rw [hi']
        clear hi' i
        refine wpOp_step h5 (fun K' hK => ?_)
        refine F5 _ _ _ _ ((by rw [eval_ne (nd_ne hnd (i := 1) (j := 9) rfl rfl (by decide)), eval_ne (nd_ne hnd (i := 2) (j := 9) rfl rfl (by decide)), eval_ne (nd_ne hnd (i := 0) (j := 9) rfl rfl (by decide))]; exact y5)) ?_
        refine hK _ _ ⟨hS _ EE132, ?_⟩
        refine wpAnyT_ready r1235 (by simp) ?_
        intro i hi'
        simp only [List.mem_cons, List.not_mem_nil, or_false] at hi'
        rw [hi']
        clear hi' i
        refine wpOp_step h4 (fun K' hK => ?_)
        refine step_append_lies _ g4 (.tmp s3) (.tmp t3) _ p4 base 2 i0 _ 1 8 Try.underlying26 hi hz0 hz1 hz2 rfl (by decide) _ m _ ((by rw [eval_ne (nd_ne hnd (i := 8) (j := 7) rfl rfl (by decide)), eval_ne (nd_ne hnd (i := 1) (j := 7) rfl rfl (by decide)), eval_ne (nd_ne hnd (i := 2) (j := 7) rfl rfl (by decide)), eval_ne (nd_ne hnd (i := 0) (j := 7) rfl rfl (by decide))]; exact e3)) o3132 ⟨G13, 0, none⟩ 1 1 [.int .i64 v3] ((by rw [eval_ne (nd_ne hnd (i := 8) (j := 2) rfl rfl (by decide)), eval_ne (nd_ne hnd (i := 1) (j := 2) rfl rfl (by decide)), eval_eq (by first | exact z3 | (simp only [put_size]; exact z3))])) rfl ?_ (by intro u hu; simp at hu; subst hu; rfl) (by decide) (by unfold maxLen; omega) (by omega) (by have := (EE132).size; omega) _ rfl ?_
        · intro j u hu
          match j, hu with
          | 0, hu => cases hu; exact q3132
        intro g13254 cap13254 W13254 k13254 hg13254 hl13254 ht13254
        rw [d4]
        have EE13254 := Ev2.grown EE132 hg13254 (.inr rfl)
        have f13254 : frB w B (some ⟨g13254, 0, none⟩) := fr_of (W := w) hl13254 (EE132).size
        have o113254 := own_apart k132 hg13254 (j132)
        have j13254 := (dj_lies hl13254 (j132.sym) (own_blk k132)).sym
        refine hK _ _ ⟨hS _ EE13254, ?_⟩
        rw [sc _ i5 i4 (nd_ne hin (i := 4) (j := 3) rfl rfl (by decide))]
        refine ⟨hD, ?_⟩
        rw [sw _ t3 t2 _ _ (nd_ne hnd (i := 2) (j := 1) rfl rfl (by decide))]
        rw [sw _ t5 t4 _ _ (nd_ne hnd (i := 8) (j := 3) rfl rfl (by decide))]
        exact K _ _ _ _ _ _ _ (by rw [flat_snoc]; exact o113254) (by rw [flat_snoc]; exact k13254) j13254 f132 f13254 EE13254
  · rw [hi']
    clear hi' i
    refine wpOp_step h3 (fun K' hK => ?_)
    refine step_build g3 (.tmp x3) v3 p3 (y3) ?_
    rw [d3]
    have bb3 : Below w.heap.size w (w.alloc (.cells #[.int .i64 v3] 2)) := (Below.refl _ _).alloc (Nat.le_refl _) _
    have EE3 := Ev2.alloc (Ev2.refl w A B) (.cells #[.int .i64 v3] 2)
    have nn3 : (w.alloc (.cells #[.int .i64 v3] 2)).cell? ⟨w.heap.size, 0, none⟩ = some (.int .i64 v3) := (Blk.new w 2 #[.int .i64 v3]).cell 0
    have o13 := own_below w1 bb3
    have o33 := own_below w3 bb3
    have zz3 := ((Ev2.refl w A B)).size
    refine hK _ _ ⟨hS _ EE3, ?_⟩
    obtain ⟨G3, hG3⟩ : ∃ G, G = w.heap.size := ⟨_, rfl⟩
    rw [← hG3] at nn3 zz3 ⊢
    generalize w.alloc (.cells #[.int .i64 v3] 2) = W3 at *
    refine wpAnyT_ready r3 (by simp) ?_
    intro i hi'
    simp only [List.mem_cons, List.not_mem_nil, or_false] at hi'
    rw [hi']
    clear hi' i
    refine wpOp_step h1 (fun K' hK => ?_)
    refine step_build g1 (.tmp x1) v1 p1 ((by rw [eval_ne (nd_ne hnd (i := 2) (j := 4) rfl rfl (by decide))]; exact y1)) ?_
    rw [d1]
    have bb31 : Below W3.heap.size W3 (W3.alloc (.cells #[.int .i64 v1] 2)) := (Below.refl _ _).alloc (Nat.le_refl _) _
    have EE31 := Ev2.alloc EE3 (.cells #[.int .i64 v1] 2)
    have nn31 : (W3.alloc (.cells #[.int .i64 v1] 2)).cell? ⟨W3.heap.size, 0, none⟩ = some (.int .i64 v1) := (Blk.new W3 2 #[.int .i64 v1]).cell 0
    have o131 := own_below o13 bb31
    have o331 := own_below o33 bb31
    have q331 := cell_on nn3 bb31
    have zz31 := (EE3).size
    refine hK _ _ ⟨hS _ EE31, ?_⟩
    obtain ⟨G31, hG31⟩ : ∃ G, G = W3.heap.size := ⟨_, rfl⟩
    rw [← hG31] at nn31 zz31 ⊢
    generalize W3.alloc (.cells #[.int .i64 v1] 2) = W31 at *
    rw [sc _ i3 i1 (nd_ne hin (i := 2) (j := 0) rfl rfl (by decide))]
    refine wpAnyT_ready r13 (by simp) ?_
    intro i hi'
    simp only [List.mem_cons, List.not_mem_nil, or_false] at hi'
    rw [hi']
    clear hi' i
    refine wpOp_step h2 (fun K' hK => ?_)
    refine step_append_lies _ g2 (.tmp s1) (.tmp t1) _ p2 base 2 i0 _ 1 8 Try.underlying26 hi hz0 hz1 hz2 rfl (by decide) _ n _ ((by rw [eval_ne (nd_ne hnd (i := 0) (j := 6) rfl rfl (by decide)), eval_ne (nd_ne hnd (i := 2) (j := 6) rfl rfl (by decide))]; exact e1)) o131 ⟨G31, 0, none⟩ 1 1 [.int .i64 v1] ((by rw [eval_eq (by first | exact z1 | (simp only [put_size]; exact z1))])) rfl ?_ (by intro u hu; simp at hu; subst hu; rfl) (by decide) (by unfold maxLen; omega) (by omega) (by have := (EE31).size; omega) _ rfl ?_
    · intro j u hu
      match j, hu with
      | 0, hu => cases hu; exact nn31
    intro g312 cap312 W312 k312 hg312 hl312 ht312
    rw [d2]
    have EE312 := Ev2.grown EE31 hg312 (.inl rfl)
    have f312 : frB w A (some ⟨g312, 0, none⟩) := fr_of (W := w) hl312 (EE31).size
    have o3312 := own_apart o331 hg312 (hd.sym)
    have j312 := dj_lies hl312 (hd) (own_blk o331)
    have q3312 := (hg312.cell_far ⟨G3, 0, none⟩ (World.block_lt_of_cell? _ _ q331) (far_of (fun x hx => by have h9 := lA x hx; have h8 := zz3; omega))).trans q331
    refine hK _ _ ⟨hS _ EE312, ?_⟩
    rw [sc _ i3 i2 (nd_ne hin (i := 2) (j := 1) rfl rfl (by decide))]
    refine wpAnyT_ready r123 (by simp) ?_
    intro i hi'
    simp only [List.mem_cons, List.not_mem_nil, or_false] at hi'
    rcases hi' with hi' | hi'
    · rw [hi']
      clear hi' i
      refine wpOp_step h4 (fun K' hK => ?_)
      refine step_append_lies _ g4 (.tmp s3) (.tmp t3) _ p4 base 2 i0 _ 1 8 Try.underlying26 hi hz0 hz1 hz2 rfl (by decide) _ m _ ((by rw [eval_ne (nd_ne hnd (i := 1) (j := 7) rfl rfl (by decide)), eval_ne (nd_ne hnd (i := 0) (j := 7) rfl rfl (by decide)), eval_ne (nd_ne hnd (i := 2) (j := 7) rfl rfl (by decide))]; exact e3)) o3312 ⟨G3, 0, none⟩ 1 1 [.int .i64 v3] ((by rw [eval_ne (nd_ne hnd (i := 1) (j := 2) rfl rfl (by decide)), eval_ne (nd_ne hnd (i := 0) (j := 2) rfl rfl (by decide)), eval_eq (by first | exact z3 | (simp only [put_size]; exact z3))])) rfl ?_ (by intro u hu; simp at hu; subst hu; rfl) (by decide) (by unfold maxLen; omega) (by omega) (by have := (EE312).size; omega) _ rfl ?_
      · intro j u hu
        match j, hu with
        | 0, hu => cases hu; exact q3312
      intro g3124 cap3124 W3124 k3124 hg3124 hl3124 ht3124
      rw [d4]
      have EE3124 := Ev2.grown EE312 hg3124 (.inr rfl)
      have f3124 : frB w B (some ⟨g3124, 0, none⟩) := fr_of (W := w) hl3124 (EE312).size
      have o13124 := own_apart k312 hg3124 (j312)
      have j3124 := (dj_lies hl3124 (j312.sym) (own_blk k312)).sym
      refine hK _ _ ⟨hS _ EE3124, ?_⟩
      refine wpAnyT_ready r1234 (by simp) ?_
      intro i hi'
      simp only [List.mem_cons, List.not_mem_nil, or_false] at hi'
      rw [hi']
      clear hi' i
      refine wpOp_step h5 (fun K' hK => ?_)
      refine F5 _ _ _ _ ((by rw [eval_ne (nd_ne hnd (i := 3) (j := 9) rfl rfl (by decide)), eval_ne (nd_ne hnd (i := 1) (j := 9) rfl rfl (by decide)), eval_ne (nd_ne hnd (i := 0) (j := 9) rfl rfl (by decide)), eval_ne (nd_ne hnd (i := 2) (j := 9) rfl rfl (by decide))]; exact y5)) ?_
      refine hK _ _ ⟨hS _ EE3124, ?_⟩
      refine ⟨hD, ?_⟩
      rw [sw _ t3 t1 _ _ (nd_ne hnd (i := 2) (j := 0) rfl rfl (by decide))]
      rw [sw _ t3 t2 _ _ (nd_ne hnd (i := 2) (j := 1) rfl rfl (by decide))]
      exact K _ _ _ _ _ _ _ (by rw [flat_snoc]; exact o13124) (by rw [flat_snoc]; exact k3124) j3124 f312 f3124 EE3124
    · rw [hi']
      clear hi' i
      refine wpOp_step h5 (fun K' hK => ?_)
      refine F5 _ _ _ _ ((by rw [eval_ne (nd_ne hnd (i := 1) (j := 9) rfl rfl (by decide)), eval_ne (nd_ne hnd (i := 0) (j := 9) rfl rfl (by decide)), eval_ne (nd_ne hnd (i := 2) (j := 9) rfl rfl (by decide))]; exact y5)) ?_
      refine hK _ _ ⟨hS _ EE312, ?_⟩
      refine wpAnyT_ready r1235 (by simp) ?_
      intro i hi'
      simp only [List.mem_cons, List.not_mem_nil, or_false] at hi'
      rw [hi']
      clear hi' i
      refine wpOp_step h4 (fun K' hK => ?_)
      refine step_append_lies _ g4 (.tmp s3) (.tmp t3) _ p4 base 2 i0 _ 1 8 Try.underlying26 hi hz0 hz1 hz2 rfl (by decide) _ m _ ((by rw [eval_ne (nd_ne hnd (i := 8) (j := 7) rfl rfl (by decide)), eval_ne (nd_ne hnd (i := 1) (j := 7) rfl rfl (by decide)), eval_ne (nd_ne hnd (i := 0) (j := 7) rfl rfl (by decide)), eval_ne (nd_ne hnd (i := 2) (j := 7) rfl rfl (by decide))]; exact e3)) o3312 ⟨G3, 0, none⟩ 1 1 [.int .i64 v3] ((by rw [eval_ne (nd_ne hnd (i := 8) (j := 2) rfl rfl (by decide)), eval_ne (nd_ne hnd (i := 1) (j := 2) rfl rfl (by decide)), eval_ne (nd_ne hnd (i := 0) (j := 2) rfl rfl (by decide)), eval_eq (by first | exact z3 | (simp only [put_size]; exact z3))])) rfl ?_ (by intro u hu; simp at hu; subst hu; rfl) (by decide) (by unfold maxLen; omega) (by omega) (by have := (EE312).size; omega) _ rfl ?_
      · intro j u hu
        match j, hu with
        | 0, hu => cases hu; exact q3312
      intro g31254 cap31254 W31254 k31254 hg31254 hl31254 ht31254
      rw [d4]
      have EE31254 := Ev2.grown EE312 hg31254 (.inr rfl)
      have f31254 : frB w B (some ⟨g31254, 0, none⟩) := fr_of (W := w) hl31254 (EE312).size
      have o131254 := own_apart k312 hg31254 (j312)
      have j31254 := (dj_lies hl31254 (j312.sym) (own_blk k312)).sym
      refine hK _ _ ⟨hS _ EE31254, ?_⟩
      rw [sc _ i5 i4 (nd_ne hin (i := 4) (j := 3) rfl rfl (by decide))]
      refine ⟨hD, ?_⟩
      rw [sw _ t3 t1 _ _ (nd_ne hnd (i := 2) (j := 0) rfl rfl (by decide))]
      rw [sw _ t3 t2 _ _ (nd_ne hnd (i := 2) (j := 1) rfl rfl (by decide))]
      rw [sw _ t5 t4 _ _ (nd_ne hnd (i := 8) (j := 3) rfl rfl (by decide))]
      exact K _ _ _ _ _ _ _ (by rw [flat_snoc]; exact o131254) (by rw [flat_snoc]; exact k31254) j31254 f312 f31254 EE31254
end Go.Proofs.Ytkldejbhhbgefaa
