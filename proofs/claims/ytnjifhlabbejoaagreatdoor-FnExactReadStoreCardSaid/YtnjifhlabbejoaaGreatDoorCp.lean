/- Copies of stores: the program's copyStore. -/
import Derived.Test.YtnjifhlabbejoaaGreatDoorSt
import Derived.Test.YtnjifhlabbejoaaGreatDoorTm
import Derived.Test.YtnjifhlabbejoaaGreatDoorPk
import Derived.WalkSpells
import Derived.Deep.RegionLaw
import Derived.Deep.RegionHeld3
namespace Go.Proofs.YtnjifhlabbejoaaGreatDoor
open Go.ChangeShapes Go.WideShapes Go.ChangeAt Go.RowKit
set_option linter.unusedVariables false
set_option linter.unusedSimpArgs false
/-- append of one element inside a region that draws, with all that it leaves alone. -/
theorem step_grow {P : Program} (w : World) {ops : Array Oper} {o : Oper} {a : Act} {Q : Exit → Act → World → Prop} {K : Act → World → Prop} {E : Prop} {α : Type} {f : α → List Value} {S Y : Nat} (hf : ∀ x, (f x).length = S) (hone : ∀ x, ∀ u ∈ f x, u.oneCell' = true) (hgd : o.guard = none) (s x : Operand) (t : TypeId)
    (ho : o.op = .call { callee := .builtin .append, args := #[s, x], argTypes := #[t, t] }) (base : Nat) (e : TypeId) (i : TypeInfo) (z : Value)
    (h1 : P.underlying t = some (.slice e)) (hi : P.info? e = some i) (hz : i.zero = some z) (hs : i.size = S) (hy : i.bytes = Y) (hzs : z.cells.size = S) (hS : 0 < S) (hY : Y ≤ 4096)
    (A : Option Addr) (n c : Nat) (l : List α) (hv : a.eval s = .slice A n c) (hown : w.ownsRow base e S (.slice A n c) n (l.flatMap f))
    (g c' : Nat) (p : α) (hx : a.eval x = .slice (some ⟨g, 0, none⟩) 1 c') (hcell : ∀ j u, (f p)[j]? = some u → w.cell? ⟨g, j, none⟩ = some u) (hn : n ≤ 1048576) (hbase : base ≤ w.heap.size)
    (k : ∀ A' c' w', w'.ownsRow base e S (.slice A' (n + 1) c') (n + 1) ((l ++ [p]).flatMap f) → w.grownBy w' (Value.slice A n c).ownBlock → K (a.put o.dst (.slice A' (n + 1) c')) w') :
    if Region.wanted o (yielded ops a.tmps) = true then Oper.wp P o a w K Q else E := by
  have hw : Region.wanted o (yielded ops a.tmps) = true := by simp [Region.wanted, hgd]
  rw [if_pos hw]
  have hb : (n + 1) * Y ≤ 140737488355328 := Nat.le_trans (Nat.mul_le_mul (show n + 1 ≤ 1048577 by omega) hY) (by decide)
  have hnews : ∀ j u, (f p)[j]? = some u → w.cell? ((⟨g, 0, none⟩ : Addr).add j) = some u := by
    intro j u hu
    have h := hcell j u hu
    unfold Addr.add
    split
    · rename_i h0; subst h0; exact h
    · simpa using h
  obtain ⟨v', w', hrun, hown', hgrow, _⟩ := run_append_own (P := P) w base t o.type e i z S Y h1 hi hz hs hy hzs hS (.slice A n c) n (l.flatMap f) hown ⟨g, 0, none⟩ 1 c' (f p) (by rw [hf, Nat.one_mul]) hnews (hone p) (by unfold maxLen; omega) hb hbase
  unfold Oper.wp execOp
  simp only [ho, resolve, invoke, builtin, Sem.run_bind, Sem.run_pure, Result.andThen_ok, List.map_toArray, List.map_cons, List.map_nil, hv, hx, hrun]
  obtain ⟨A', c'', rfl, _, _⟩ := own_form hown'
  exact k A' c'' w' (by rw [flat_snoc]; exact hown') hgrow
/-- A store of the call's own, whole. -/
structure TS (w : World) (base : Nat) (tT tF : TypeId) (A : Option Addr) (n c : Nat) (hs : List HT) (xs : List TV) : Prop where
  o : w.ownsRow base tT 2 (.slice A n c) n (hs.flatMap cT)
  l : hs.length = n
  x : xs.length = n
  u : TLo w base tF hs xs
  d : TLd hs
section
variable {w w' : World} {base base' tT tF n c : Nat} {A : Option Addr} {hs : List HT} {xs : List TV}
theorem TS.nil (w : World) (base tT tF : Nat) : TS w base tT tF none 0 0 [] [] := ⟨World.ownsRow_nil _ _ _ _, rfl, rfl, fun k h x h1 => by simp at h1, TLd.nil⟩
theorem TS.on (h : TS w base tT tF A n c hs xs) (hb : Below w.heap.size w w') : TS w' base tT tF A n c hs xs := ⟨own_below h.o hb, h.l, h.x, h.u.on hb, h.d⟩
theorem TS.mono (h : TS w base tT tF A n c hs xs) (hb : base' ≤ base) : TS w base' tT tF A n c hs xs := ⟨own_mono h.o hb, h.l, h.x, h.u.mono hb, h.d⟩
theorem TS.far (h : TS w base tT tF A n c hs xs) {p : Addr} (hp : p.block < base) (u : Value) : TS (w.setCell p u) base tT tF A n c hs xs :=
  ⟨ownsRow_setCell_below h.o hp u, h.l, h.x, fun k q x h1 h2 => ⟨(h.u k q x h1 h2).1, (h.u k q x h1 h2).2.1, ownsRow_setCell_below (h.u k q x h1 h2).2.2 hp u⟩, h.d⟩
theorem TS.tl (h : TS w base tT tF A n c hs xs) : TL w w.heap.size A n c xs := tl_own h.o h.l h.x h.u
/-- Behind an append of a template whose row is newer. -/
theorem TS.push {A' A3 : Option Addr} {c' n3 c3' B3 : Nat} {s : ByteArray} {x : List T3} (h : TS w base tT tF A n c hs xs) (hne : tT ≠ tF) (o3 : w.ownsRow B3 tF 3 (.slice A3 n3 c3') n3 (x.flatMap c3)) (hx : x.length = n3) (hB : base ≤ B3)
    (hnew : ∀ (i : Nat) (q : HT) (a : Addr), hs[i]? = some q → q.2.1 = some a → a.block < B3)
    (hw : w'.ownsRow base tT 2 (.slice A' (n + 1) c') (n + 1) ((hs ++ [(s, A3, n3, c3')]).flatMap cT)) (hg : w.grownBy w' (Value.slice A n c).ownBlock) : TS w' base tT tF A' (n + 1) c' (hs ++ [(s, A3, n3, c3')]) (xs ++ [(s, x)]) := by
  have hk : ∀ {b9 s9 n9 c9 : Nat} {A9 : Option Addr} {vs : List Value}, w.ownsRow b9 tF s9 (.slice A9 n9 c9) n9 vs → w'.ownsRow b9 tF s9 (.slice A9 n9 c9) n9 vs := fun {b9 s9 n9 c9 A9 vs} h9 => h9.kept hg (by
    cases A with
    | none => cases A9 <;> simp [Value.ownBlock]
    | some a =>
      cases A9 with
      | none => exact .inl rfl
      | some a9 => exact .inr (own_ty' h.o h9 hne))
  refine ⟨hw, by simp [h.l], by simp [h.x], ?_, ?_⟩
  · refine TLo.push (k := n) (fun k q x h1 h2 => ⟨(h.u k q x h1 h2).1, (h.u k q x h1 h2).2.1, hk (h.u k q x h1 h2).2.2⟩) h.l h.x rfl hx (own_mono (hk o3) hB)
  · refine TLd.snoc h.d h.l (fun i q a a' hi ha ha' => ?_)
    have h1 := hnew i q a hi ha
    have h2 := (o3.lt a'.block (by simp only at ha'; rw [ha']; rfl)).1
    omega
theorem TS.top (h : TS w base tT tF A n c hs xs) (i : Nat) (q : HT) (a : Addr) (hi : hs[i]? = some q) (ha : q.2.1 = some a) : base ≤ a.block ∧ a.block < w.heap.size := h.u.top (by rw [h.l, h.x]; exact Nat.le_refl _) i q a hi ha
end
/-- A row whose elements are of another type than a block lies elsewhere. -/
theorem own_blk_ne {w : World} {b e s n c g t : Nat} {A : Option Addr} {xs : List Value} {cs : Array Value} (h : w.ownsRow b e s (.slice A n c) n xs) (K : Blk w g t cs) (hne : e ≠ t) : (Value.slice A n c).ownBlock ≠ some g := by
  rcases h.2 with ⟨hv, _⟩ | ⟨g', cap, cur, hv, _, hh, _⟩
  · cases hv; simp [Value.ownBlock]
  · cases hv
    simp only [Value.ownBlock, ne_eq, Option.some.injEq]
    rintro rfl
    unfold Blk at K
    rw [hh] at K
    simp only [Option.some.injEq, Obj.cells.injEq] at K
    exact hne K.2.1
theorem Blk.grown {w w' : World} {b e s n c g t : Nat} {A : Option Addr} {xs : List Value} {cs : Array Value} (K : Blk w g t cs) (h : w.ownsRow b e s (.slice A n c) n xs) (hg : w.grownBy w' (Value.slice A n c).ownBlock) (hne : e ≠ t) : Blk w' g t cs :=
  (hg.block g K.lt (fun h9 => own_blk_ne h K hne h9.symm)).trans K
theorem TS.off {w : World} {base tT tF n c g t : Nat} {A : Option Addr} {hs : List HT} {xs : List TV} {cs : Array Value} (h : TS w base tT tF A n c hs xs) (K : Blk w g t cs) (h1 : tT ≠ t) (h2 : tF ≠ t) (o : Nat) (u : Value) : TS (w.setCell ⟨g, o, none⟩ u) base tT tF A n c hs xs :=
  ⟨ownsRow_setCell_other h.o (own_blk_ne h.o K h1) u, h.l, h.x, fun k q x e1 e2 => ⟨(h.u k q x e1 e2).1, (h.u k q x e1 e2).2.1, ownsRow_setCell_other (h.u k q x e1 e2).2.2 (own_blk_ne (h.u k q x e1 e2).2.2 K h2) u⟩, h.d⟩
theorem featsOk_pos {m : Int} {x : List T3} (h : featsOk m x = true) : 0 < x.length := by
  unfold featsOk at h
  have h1 := (inB_iff.1 (Bool.and_eq_true_iff.1 h).2).1
  omega
theorem Blk.belowB {w w' : World} {B g : Nat} {t : TypeId} {cs : Array Value} (h : Blk w g t cs) (hb : Below B w w') (hg : g < B) : Blk w' g t cs := (hb.block g hg).trans h
theorem newsT {w : World} {g : Nat} {t : TypeId} {q : HT} (h : Blk w g t #[.string q.1, .slice q.2.1 q.2.2.1 q.2.2.2]) : ∀ j u, (cT q)[j]? = some u → w.cell? ⟨g, j, none⟩ = some u := by
  intro j u hu
  match j, hu with
  | 0, hu => cases hu; rw [h.cell 0]; rfl
  | 1, hu => cases hu; rw [h.cell 1]; rfl
end Go.Proofs.YtnjifhlabbejoaaGreatDoor
