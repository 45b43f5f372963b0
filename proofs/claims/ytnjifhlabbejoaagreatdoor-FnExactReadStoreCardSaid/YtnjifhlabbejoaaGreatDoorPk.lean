/- More plain words: append of one element, and what it leaves alone: every cell but those behind the row's own end. -/
import Derived.Test.YtnjifhlabbejoaaGreatDoorPm
namespace Go.Proofs.YtnjifhlabbejoaaGreatDoor
open Go.RowKit
/-- What stands behind an append onto the row A of n elements of S cells. -/
def Stays (w w' : World) (A : Option Addr) (m : Nat) : Prop := ∀ b o u, w.cell? ⟨b, o, none⟩ = some u → ((∀ ad, A = some ad → b ≠ ad.block) ∨ o < m) → w'.cell? ⟨b, o, none⟩ = some u
theorem run_keep {P : Program} (w : World) {α : Type} {f : α → List Value} {S Y : Nat} (hf : ∀ x, (f x).length = S) (hone : ∀ x, ∀ u ∈ f x, u.oneCell' = true) (t ty : TypeId) (base : Nat) (e : TypeId) (i : TypeInfo) (z : Value)
    (h1 : P.underlying t = some (.slice e)) (hi : P.info? e = some i) (hz : i.zero = some z) (hs : i.size = S) (hy : i.bytes = Y) (hzs : z.cells.size = S) (hS : 0 < S) (hY : Y ≤ 4096)
    (A : Option Addr) (n c : Nat) (l : List α) (hown : w.ownsRow base e S (.slice A n c) n (l.flatMap f))
    (g c' : Nat) (p : α) (hcell : ∀ j u, (f p)[j]? = some u → w.cell? ⟨g, j, none⟩ = some u) (hn : n ≤ 1048576) (hbase : base ≤ w.heap.size) :
    ∃ A' c'' w', (Builtin.append_ #[t, t] ty #[.slice A n c, .slice (some ⟨g, 0, none⟩) 1 c']).run P w = .ok (.slice A' (n + 1) c'') w' ∧ w'.ownsRow base e S (.slice A' (n + 1) c'') (n + 1) ((l ++ [p]).flatMap f) ∧ Below base w w' ∧ Stays w w' A (n * S) := by
  have hb : (n + 1) * Y ≤ 140737488355328 := Nat.le_trans (Nat.mul_le_mul (show n + 1 ≤ 1048577 by omega) hY) (by decide)
  have hnews : ∀ j u, (f p)[j]? = some u → w.cell? ((⟨g, 0, none⟩ : Addr).add j) = some u := by
    intro j u hu
    have h := hcell j u hu
    unfold Addr.add
    split
    · rename_i h0; subst h0; exact h
    · simpa using h
  obtain ⟨v', w', hrun, hown', hgrow, _⟩ := run_append_own (P := P) w base t ty e i z S Y h1 hi hz hs hy hzs hS (.slice A n c) n (l.flatMap f) hown ⟨g, 0, none⟩ 1 c' (f p) (by rw [hf, Nat.one_mul]) hnews (hone p) (by unfold maxLen; omega) hb hbase
  obtain ⟨A', c'', rfl, _, _⟩ := own_form hown'
  refine ⟨A', c'', w', hrun, by rw [flat_snoc]; exact hown', (Below.refl _ _).grown hgrow hbase (fun k hk => (hown.lt k hk).1), ?_⟩
  intro b o u hu hcond
  have hfar : (∀ ad, A = some ad → b ≠ ad.block) → w'.cell? ⟨b, o, none⟩ = some u := fun hne => by
    have hb2 := hgrow.block b (World.block_lt_of_cell? w _ hu) (by
      cases hA : A with
      | none => simp [Value.ownBlock]
      | some ad => have := hne ad hA; simp [Value.ownBlock, this])
    exact (World.cell?_of_block (a := ⟨b, o, none⟩) hb2).trans hu
  rcases hown.2 with ⟨hv, h0⟩ | ⟨g0, cap, cur, hv, hbg, hg, hnc, hcm, hcs, htake⟩
  · cases hv; exact hfar (fun ad h => by cases h)
  · cases hv
    by_cases hbe : b = g0
    · subst hbe
      have ho : o < n * S := by
        rcases hcond with h | h
        · exact absurd rfl (h _ rfl)
        · exact h
      have hu2 : (l.flatMap f)[o]? = some u := by rw [← hown.cellAt o ho]; exact hu
      by_cases hroom : n + 1 ≤ c
      · have hfit : n * i.size + (f p).length ≤ cur.size := by rw [hf, hcs, hs]; have := Nat.mul_le_mul_right S hroom; rw [Nat.succ_mul] at this; exact this
        have hr := run_append_room (P := P) w t ty e i h1 hi b n c cur hg ⟨g, 0, none⟩ 1 c' (f p) (by rw [hf, Nat.one_mul, hs]) hnews (hone p) hroom hfit
        rw [hrun] at hr
        simp only [Result.ok.injEq, Value.slice.injEq] at hr
        obtain ⟨⟨rfl, _, _⟩, _⟩ := hr
        rw [hown'.cellAt o (by rw [Nat.succ_mul]; omega), List.getElem?_append_left (by have := hown.1; omega)]
        exact hu2
      · have holds : ∀ j u, (l.flatMap f)[j]? = some u → w.cell? ((⟨b, 0, none⟩ : Addr).add j) = some u := hown.cells (g := b) rfl
        have hr := run_append_grow (P := P) w t ty e i z h1 hi hz ⟨b, 0, none⟩ n c (l.flatMap f) (by rw [hs]; exact hown.1) holds ⟨g, 0, none⟩ 1 c' (f p) (by rw [hf, Nat.one_mul, hs]) hnews (by omega) (by omega) (by rw [hy]; exact growslice_fits (by omega) hb)
        rw [hrun] at hr
        simp only [Result.ok.injEq] at hr
        rw [hr.2]
        have h9 := World.cell?_alloc_lt w.drew (.cells ((l.flatMap f).toArray ++ (f p).toArray ++ Builtin.zeroCells z.cells (grownCap w (n + 1) c e - (n + 1))) e) ⟨b, o, none⟩ (World.block_lt_of_cell? w _ hu)
        exact h9.trans hu
    · exact hfar (fun ad h => by cases h; exact hbe)
theorem step_keep {P : Program} (w : World) {ops : Array Oper} {o : Oper} {a : Act} {Q : Exit → Act → World → Prop} {K : Act → World → Prop} {E : Prop} {α : Type} {f : α → List Value} {S Y : Nat} (hf : ∀ x, (f x).length = S) (hone : ∀ x, ∀ u ∈ f x, u.oneCell' = true) (hgd : o.guard = none) (s x : Operand) (t : TypeId)
    (ho : o.op = .call { callee := .builtin .append, args := #[s, x], argTypes := #[t, t] }) (base : Nat) (e : TypeId) (i : TypeInfo) (z : Value)
    (h1 : P.underlying t = some (.slice e)) (hi : P.info? e = some i) (hz : i.zero = some z) (hs : i.size = S) (hy : i.bytes = Y) (hzs : z.cells.size = S) (hS : 0 < S) (hY : Y ≤ 4096)
    (A : Option Addr) (n c : Nat) (l : List α) (hv : a.eval s = .slice A n c) (hown : w.ownsRow base e S (.slice A n c) n (l.flatMap f))
    (g c' : Nat) (p : α) (hx : a.eval x = .slice (some ⟨g, 0, none⟩) 1 c') (hcell : ∀ j u, (f p)[j]? = some u → w.cell? ⟨g, j, none⟩ = some u) (hn : n ≤ 1048576) (hbase : base ≤ w.heap.size)
    (k : ∀ A' c' w', w'.ownsRow base e S (.slice A' (n + 1) c') (n + 1) ((l ++ [p]).flatMap f) → Below base w w' → Stays w w' A (n * S) → K (a.put o.dst (.slice A' (n + 1) c')) w') :
    if Region.wanted o (yielded ops a.tmps) = true then Oper.wp P o a w K Q else E := by
  have hw : Region.wanted o (yielded ops a.tmps) = true := by simp [Region.wanted, hgd]
  rw [if_pos hw]
  obtain ⟨A', c'', w', hrun, hown', hb, hst⟩ := run_keep (P := P) w hf hone t o.type base e i z h1 hi hz hs hy hzs hS hY A n c l hown g c' p hcell hn hbase
  unfold Oper.wp execOp
  simp only [ho, resolve, invoke, builtin, Sem.run_bind, Sem.run_pure, Result.andThen_ok, List.map_toArray, List.map_cons, List.map_nil, hv, hx, hrun]
  exact k A' c'' w' hown' hb hst
/-! ### append of a whole slice onto an empty one -/
theorem app_all {P : Program} (w : World) {ops : Array Oper} {rest : List Oper} {o : Oper} {a : Act} {Q : Exit → Act → World → Prop} {α : Type} {f : α → List Value} {S Y : Nat} (hf : ∀ x, (f x).length = S) (hone : ∀ x, ∀ u ∈ f x, u.oneCell' = true) (hg : o.guard = none) (s x : Operand) (t : TypeId)
    (ho : o.op = .call { callee := .builtin .append, args := #[s, x], argTypes := #[t, t] }) (base : Nat) (e : TypeId) (i : TypeInfo) (z : Value)
    (h1 : P.underlying t = some (.slice e)) (hi : P.info? e = some i) (hz : i.zero = some z) (hs : i.size = S) (hy : i.bytes = Y) (hzs : z.cells.size = S) (hS : 0 < S) (hY : Y ≤ 4096)
    (A0 : Option Addr) (c0 : Nat) (hv : a.eval s = .slice A0 0 c0) (hown : w.ownsRow base e S (.slice A0 0 c0) 0 [])
    (A : Option Addr) (n c B : Nat) (xs : List α) (hx : a.eval x = .slice A n c) (hr : RdL f S w B A n c xs) (hpos : 0 < n) (hn : n ≤ 1048576) (hbase : base ≤ w.heap.size)
    (K : ∀ A' c' w', w'.ownsRow base e S (.slice A' n c') n (xs.flatMap f) → Below base w w' → wpList P ops Q rest (a.put o.dst (.slice A' n c')) w') :
    wpList P ops Q (o :: rest) a w := by
  have hb : (0 + n) * Y ≤ 140737488355328 := by rw [Nat.zero_add]; exact Nat.le_trans (Nat.mul_le_mul hn hY) (by decide)
  obtain ⟨hl, _, _, _, h4⟩ := hr
  obtain ⟨b, off, rfl, hbB, hc⟩ := h4 hpos
  refine wpList_append_own w hg s x t ho base e i z S Y h1 hi hz hs hy hzs hS (.slice A0 0 c0) 0 [] hv hown ⟨b, off, none⟩ n c (xs.flatMap f) hx (by rw [flat_len hf, hl]) ?_ ?_ (by unfold maxLen; omega) hb hbase ?_
  · intro j u hu
    have h := hc j u hu
    unfold Addr.add
    split
    · rename_i h0; subst h0; exact h
    · exact h
  · intro u hu
    obtain ⟨y, _, hy2⟩ := List.mem_flatMap.1 hu
    exact hone y u hy2
  · intro v' w' hown' hgrow _
    rw [Nat.zero_add, List.nil_append] at hown'
    obtain ⟨A', c'', rfl, _, _⟩ := own_form hown'
    exact K A' c'' w' hown' ((Below.refl _ _).grown hgrow hbase (fun k hk => (hown.lt k hk).1))
/-- A block of two cells, all that a walk asks. -/
theorem Blk.two {w : World} {g : Nat} {t : TypeId} {a b : Value} (h : Blk w g t #[a, b]) : w.cell? ⟨g, 0, none⟩ = some a ∧ w.cell? ⟨g, 1, none⟩ = some b ∧ w.frozen? ⟨g, 0, none⟩ = false ∧ w.frozen? ⟨g, 1, none⟩ = false ∧ g < w.heap.size :=
  ⟨by rw [h.cell 0]; rfl, by rw [h.cell 1]; rfl, h.frozen 0, h.frozen 1, h.lt⟩
end Go.Proofs.YtnjifhlabbejoaaGreatDoor
