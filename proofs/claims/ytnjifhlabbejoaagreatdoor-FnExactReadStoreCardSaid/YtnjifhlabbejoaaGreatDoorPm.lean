/- More plain words: append of one element inside a region that draws its order. -/
import Derived.Test.YtnjifhlabbejoaaGreatDoorPl
import Derived.Deep.RegionHeld3
import Derived.Deep.AppendLies
namespace Go.Proofs.YtnjifhlabbejoaaGreatDoor
open Go.RowKit
section
variable {P : Program} (w : World) {ops : Array Oper} {o : Oper} {a : Act} {Q : Exit → Act → World → Prop} {K : Act → World → Prop} {E : Prop}
theorem step_one {α : Type} {f : α → List Value} {S Y : Nat} (hf : ∀ x, (f x).length = S) (hone : ∀ x, ∀ u ∈ f x, u.oneCell' = true) (hgd : o.guard = none) (s x : Operand) (t : TypeId)
    (ho : o.op = .call { callee := .builtin .append, args := #[s, x], argTypes := #[t, t] }) (base : Nat) (e : TypeId) (i : TypeInfo) (z : Value)
    (h1 : P.underlying t = some (.slice e)) (hi : P.info? e = some i) (hz : i.zero = some z) (hs : i.size = S) (hy : i.bytes = Y) (hzs : z.cells.size = S) (hS : 0 < S) (hY : Y ≤ 4096)
    (A : Option Addr) (n c : Nat) (l : List α) (hv : a.eval s = .slice A n c) (hown : w.ownsRow base e S (.slice A n c) n (l.flatMap f))
    (g c' : Nat) (p : α) (hx : a.eval x = .slice (some ⟨g, 0, none⟩) 1 c') (hcell : ∀ j u, (f p)[j]? = some u → w.cell? ⟨g, j, none⟩ = some u) (hn : n ≤ 1048576) (hbase : base ≤ w.heap.size)
    (k : ∀ A' c' w', w'.ownsRow base e S (.slice A' (n + 1) c') (n + 1) ((l ++ [p]).flatMap f) → Below base w w' → K (a.put o.dst (.slice A' (n + 1) c')) w') :
    if Region.wanted o (yielded ops a.tmps) = true then Oper.wp P o a w K Q else E := by
  have hw : Region.wanted o (yielded ops a.tmps) = true := by simp [Region.wanted, hgd]
  rw [if_pos hw]
  have hb : (n + 1) * Y ≤ 140737488355328 := Nat.le_trans (Nat.mul_le_mul (show n + 1 ≤ 1048577 by omega) hY) (by decide)
  have hnews : ∀ j u, (f p)[j]? = some u → w.cell? ((⟨g, 0, none⟩ : Addr).add j) = some u := by
    intro j u hu
    have h := hcell j u hu
    unfold Addr.add
    split
    · rename_i h0; subst h0; exact h
    · simpa using h
  obtain ⟨v', w', hrun, hown', hgrow, _⟩ := run_append_own (P := P) w base t o.type e i z S Y h1 hi hz hs hy hzs hS (.slice A n c) n (l.flatMap f) hown ⟨g, 0, none⟩ 1 c' (f p) (by rw [hf, Nat.one_mul]) hnews (hone p) (by unfold maxLen; omega) hb hbase
  unfold Oper.wp execOp
  simp only [ho, resolve, invoke, builtin, Sem.run_bind, Sem.run_pure, Result.andThen_ok, List.map_toArray, List.map_cons, List.map_nil, hv, hx, hrun]
  obtain ⟨A', c'', rfl, _, _⟩ := own_form hown'
  exact k A' c'' w' (by rw [flat_snoc]; exact hown') ((Below.refl _ _).grown hgrow hbase (fun k hk => (hown.lt k hk).1))
end
/-! ### A block that is known whole -/
def Blk (w : World) (g : Nat) (t : TypeId) (cs : Array Value) : Prop := w.heap[g]? = some (.cells cs t (0, 0))
section
variable {w w' : World} {g : Nat} {t : TypeId} {cs : Array Value}
theorem Blk.lt (h : Blk w g t cs) : g < w.heap.size := by
  rcases Nat.lt_or_ge g w.heap.size with hlt | hge
  · exact hlt
  · unfold Blk at h; rw [Array.getElem?_eq_none hge] at h; cases h
theorem Blk.cell (h : Blk w g t cs) (i : Nat) : w.cell? ⟨g, i, none⟩ = cs[i]? := cell_of_row w g i cs t (0, 0) h
theorem Blk.frozen (h : Blk w g t cs) (i : Nat) : w.frozen? ⟨g, i, none⟩ = false := by
  unfold Blk at h
  simp [World.frozen?, h]
theorem Blk.new (w : World) (t : TypeId) (cs : Array Value) : Blk (w.alloc (.cells cs t)) w.heap.size t cs := heap_alloc_new w _
theorem Blk.drewN (h : Blk w g t cs) (n : Nat) : Blk (w.drewN n) g t cs := h
theorem Blk.drew (h : Blk w g t cs) : Blk w.drew g t cs := h
theorem Blk.alloc (h : Blk w g t cs) (o : Obj) : Blk (w.alloc o) g t cs := (Below.heap_alloc w o g h.lt).trans h
theorem Blk.set_ (h : Blk w g t cs) (i : Nat) (u : Value) : Blk (w.setCell ⟨g, i, none⟩ u) g t (cs.setIfInBounds i u) := by
  unfold Blk at h ⊢
  simp [World.setCell, Array.getElem?_modify, h]
theorem Blk.far (h : Blk w g t cs) {p : Addr} (hp : g ≠ p.block) (u : Value) : Blk (w.setCell p u) g t cs := (Below.heap_setCell w p u g hp).trans h
theorem Blk.on (h : Blk w g t cs) (hb : Below w.heap.size w w') : Blk w' g t cs := (hb.block g h.lt).trans h
theorem Blk.kept (h : Blk w g t cs) {r : Option Nat} (hg : w.grownBy w' r) (hne : ∀ q, r = some q → q ≠ g) : Blk w' g t cs :=
  (hg.block g h.lt (fun e => hne g e.symm rfl)).trans h
end
/-- One cell that holds a value, in a block that stands. -/
def Cel (w : World) (g o : Nat) (v : Value) : Prop := g < w.heap.size ∧ w.cell? ⟨g, o, none⟩ = some v
section
variable {w w' : World} {g o : Nat} {v : Value} {t : TypeId}
theorem Cel.lt (h : Cel w g o v) : g < w.heap.size := h.1
theorem Cel.cell (h : Cel w g o v) : w.cell? ⟨g, o, none⟩ = some v := h.2
theorem Cel.on (h : Cel w g o v) (hb : Below w.heap.size w w') : Cel w' g o v := ⟨Nat.lt_of_lt_of_le h.1 hb.size, (hb.cell (p := ⟨g, o, none⟩) h.1).trans h.2⟩
theorem Cel.drew (h : Cel w g o v) : Cel w.drew g o v := h
theorem Blk.cel (h : Blk w g t #[v]) : Cel w g 0 v := ⟨h.lt, by rw [h.cell 0]; rfl⟩
end
theorem hs_drew (w : World) : w.drew.heap.size = w.heap.size := rfl
/-- What stands where only newer blocks are made or written, as the walk of a region asks for it. -/
theorem sk {W w' : World} (h : Below W.heap.size W w') : (∀ b o, b < W.heap.size → w'.cell? ⟨b, o, none⟩ = W.cell? ⟨b, o, none⟩) ∧ Below W.heap.size W w' := ⟨fun b o hb => h.cell (p := ⟨b, o, none⟩) hb, h⟩
/-- A row is left alone by a store into another block. -/
theorem RdL.farh {α : Type} {f : α → List Value} {s : Nat} {w : World} {A : Option Addr} {n c : Nat} {xs : List α} (h : RdL f s w w.heap.size A n c xs) {p : Addr} (hp : ∀ ad, A = some ad → ad.block ≠ p.block) (u : Value) :
    RdL f s (w.setCell p u) (w.setCell p u).heap.size A n c xs := by
  obtain ⟨h0, h1, h2, h3, h4⟩ := h
  refine ⟨h0, h1, h2, h3, fun hn => ?_⟩
  obtain ⟨b, off, rfl, hb, hc⟩ := h4 hn
  refine ⟨b, off, rfl, by simpa [World.setCell] using hb, fun j v hv => ?_⟩
  rw [World.cell?_setCell_other w p _ u (fun e => hp _ rfl (by first | exact congrArg Addr.block e | exact (congrArg Addr.block e).symm))]
  exact hc j v hv
/-! ### Tests over the places of a list -/
theorem rg_step {p : Nat → Bool} {k : Nat} (h : (List.range k).all p = true) (hk : p k = true) : (List.range (k + 1)).all p = true := by
  rw [List.range_succ, List.all_append, h]; simp [hk]
theorem rg_fail {p : Nat → Bool} {k n : Nat} (hk : k < n) (h : p k = false) : (List.range n).all p = false := by
  rw [List.all_eq_false]; exact ⟨k, List.mem_range.2 hk, by simp [h]⟩
theorem rg_at {p : Nat → Bool} {k n : Nat} (h : (List.range n).all p = true) (hk : k < n) : p k = true := List.all_eq_true.1 h k (List.mem_range.2 hk)
theorem getD_of {α : Type} {l : List α} {k : Nat} {x d : α} (h : l[k]? = some x) : l.getD k d = x := by rw [List.getD_eq_getElem?_getD, h]; rfl
end Go.Proofs.YtnjifhlabbejoaaGreatDoor
