/- More plain words: append of one element inside a region that draws its order. -/
import Derived.Test.YtpeganfbmffjbaaPl
import Derived.Deep.RegionHeld3
import Derived.Deep.AppendLies
namespace Go.Proofs.Ytpeganfbmffjbaa
open Go.RowKit
section
variable {P : Program} (w : World) {ops : Array Oper} {o : Oper} {a : Act} {Q : Exit → Act → World → Prop} {K : Act → World → Prop} {E : Prop}
theorem step_one {α : Type} {f : α → List Value} {S Y : Nat} (hf : ∀ x, (f x).length = S) (hone : ∀ x, ∀ u ∈ f x, u.oneCell' = true) (hgd : o.guard = none) (s x : Operand) (t : TypeId)
    (ho : o.op = .call { callee := .builtin .append, args := #[s, x], argTypes := #[t, t] }) (base : Nat) (e : TypeId) (i : TypeInfo) (z : Value)
    (h1 : P.underlying t = some (.slice e)) (hi : P.info? e = some i) (hz : i.zero = some z) (hs : i.size = S) (hy : i.bytes = Y) (hzs : z.cells.size = S) (hS : 0 < S) (hY : Y ≤ 4096)
    (A : Option Addr) (n c : Nat) (l : List α) (hv : a.eval s = .slice A n c) (hown : w.ownsRow base e S (.slice A n c) n (l.flatMap f))
    (g c' : Nat) (p : α) (hx : a.eval x = .slice (some ⟨g, 0, none⟩) 1 c') (hcell : ∀ j u, (f p)[j]? = some u → w.cell? ⟨g, j, none⟩ = some u) (hn : n ≤ 1048576) (hbase : base ≤ w.heap.size)
    (k : ∀ A' c' w', w'.ownsRow base e S (.slice A' (n + 1) c') (n + 1) ((l ++ [p]).flatMap f) → Below base w w' → K (a.put o.dst (.slice A' (n + 1) c')) w') :
    if Region.wanted o (yielded ops a.tmps) = true then Oper.wp P o a w K Q else E := by
  have hw : Region.wanted o (yielded ops a.tmps) = true := by simp [Region.wanted, hgd]
  rw [if_pos hw]
  have hb : (n + 1) * Y ≤ 140737488355328 := Nat.le_trans (Nat.mul_le_mul (show n + 1 ≤ 1048577 by omega) hY) (by decide)
  have hnews : ∀ j u, (f p)[j]? = some u → w.cell? ((⟨g, 0, none⟩ : Addr).add j) = some u := by
    intro j u hu
    have h := hcell j u hu
    unfold Addr.add
    split
    · rename_i h0; subst h0; exact h
    · simpa using h
  obtain ⟨v', w', hrun, hown', hgrow, _⟩ := run_append_own (P := P) w base t o.type e i z S Y h1 hi hz hs hy hzs hS (.slice A n c) n (l.flatMap f) hown ⟨g, 0, none⟩ 1 c' (f p) (by rw [hf, Nat.one_mul]) hnews (hone p) (by unfold maxLen; omega) hb hbase
  unfold Oper.wp execOp
  simp only [ho, resolve, invoke, builtin, Sem.run_bind, Sem.run_pure, Result.andThen_ok, List.map_toArray, List.map_cons, List.map_nil, hv, hx, hrun]
  obtain ⟨A', c'', rfl, _, _⟩ := own_form hown'
  exact k A' c'' w' (by rw [flat_snoc]; exact hown') ((Below.refl _ _).grown hgrow hbase (fun k hk => (hown.lt k hk).1))
end
end Go.Proofs.Ytpeganfbmffjbaa
