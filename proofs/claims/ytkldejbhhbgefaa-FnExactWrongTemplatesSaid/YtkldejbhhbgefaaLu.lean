/- LabelsOf: the reference's insertion. -/
import Derived.Test.YtkldejbhhbgefaaLt
import Derived.Test.YtkldejbhhbgefaaFlStr
import Derived.Test.YtkldejbhhbgefaaSu
import Derived.WalkLawsBesides
import Derived.Sort.Walk0
namespace Go.Proofs.Ytkldejbhhbgefaa
open Go.ChangeShapes Go.WideShapes Go.ChangeAt Go.RowKit
set_option linter.unusedVariables false
set_option linter.unusedSimpArgs false
section
variable {P : Program} (w : World) {ops : Array Oper} {rest : List Oper} {o : Oper} {a : Act} {Q : Exit → Act → World → Prop}
/-- append of many elements (none, too) onto a row of the call's own. -/
theorem app_more {α : Type} {f : α → List Value} {S Y : Nat} (hf : ∀ x, (f x).length = S) (hone : ∀ x, ∀ u ∈ f x, u.oneCell' = true) (hg : o.guard = none) (s x : Operand) (t : TypeId)
    (ho : o.op = .call { callee := .builtin .append, args := #[s, x], argTypes := #[t, t] }) (base : Nat) (e : TypeId) (i : TypeInfo) (z : Value)
    (h1 : P.underlying t = some (.slice e)) (hi : P.info? e = some i) (hz : i.zero = some z) (hs : i.size = S) (hy : i.bytes = Y) (hzs : z.cells.size = S) (hS : 0 < S) (hY : Y ≤ 4096)
    (A : Option Addr) (n c : Nat) (l : List α) (hv : a.eval s = .slice A n c) (hown : w.ownsRow base e S (.slice A n c) n (l.flatMap f))
    (b off m c' : Nat) (xs : List α) (hx : a.eval x = .slice (some ⟨b, off, none⟩) m c') (hl : xs.length = m) (hcell : ∀ j u, (xs.flatMap f)[j]? = some u → w.cell? ⟨b, off + j, none⟩ = some u) (N : Nat) (hN : N = n + m) (hn : n + m ≤ 1048576) (hbase : base ≤ w.heap.size)
    (K : ∀ A' c' w', w'.ownsRow base e S (.slice A' N c') N ((l ++ xs).flatMap f) → Below base w w' → wpList P ops Q rest (a.put o.dst (.slice A' N c')) w') :
    wpList P ops Q (o :: rest) a w := by
  subst hN
  have hb : (n + m) * Y ≤ 140737488355328 := Nat.le_trans (Nat.mul_le_mul hn hY) (by decide)
  refine wpList_append_own w hg s x t ho base e i z S Y h1 hi hz hs hy hzs hS (.slice A n c) n (l.flatMap f) hv hown ⟨b, off, none⟩ m c' (xs.flatMap f) hx (by rw [flat_len hf, hl]) ?_ ?_ (by unfold maxLen; omega) hb hbase ?_
  · intro j u hu
    have h := hcell j u hu
    unfold Addr.add
    split
    · rename_i h0; subst h0; exact h
    · exact h
  · intro u hu
    obtain ⟨y, _, hy2⟩ := List.mem_flatMap.1 hu
    exact hone y u hy2
  · intro v' w' hown' hgrow _
    obtain ⟨A', c'', rfl, _, _⟩ := own_form hown'
    refine K A' c'' w' (by rw [List.flatMap_append]; exact hown') ?_
    exact (Below.refl _ _).grown hgrow hbase (fun k hk => (hown.lt k hk).1)
end
theorem b8_back (s : ByteArray) : b8 s.data.toList = s := by simp [b8]
theorem b8_list (l : SL8) : (b8 l).toList = l := by rw [ByteArray.toList_eq]; simp [b8]
theorem slotL_gt1 {l : List SL8} {t : SL8} {k : Nat} (h : t < l.getD k []) : slotL l t (k + 1) = slotL l t k := by rw [slotL, if_pos h]
theorem slotL_le1 {l : List SL8} {t : SL8} {k : Nat} (h : ¬ t < l.getD k []) : slotL l t (k + 1) = k + 1 := by rw [slotL, if_neg h]
theorem insL_same {l : List SL8} {t : SL8} {k : Nat} (h : slotL l t l.length = k + 1) (he : l.getD k [] = t) : insL l t = l := by
  unfold insL; simp only; rw [if_pos]; rw [h]; exact ⟨by omega, by simpa using he⟩
theorem insL_put0 {l : List SL8} {t : SL8} (h : slotL l t l.length = 0) : insL l t = l.take 0 ++ [t] ++ l.drop 0 := by
  unfold insL; simp only; rw [if_neg (by omega), h]
theorem insL_put {l : List SL8} {t : SL8} {k : Nat} (h : slotL l t l.length = k + 1) (he : ¬ l.getD k [] = t) : insL l t = l.take (k + 1) ++ [t] ++ l.drop (k + 1) := by
  unfold insL; simp only; rw [if_neg, h]; rw [h]; rintro ⟨_, h2⟩; exact he (by simpa using h2)
theorem s8_cases (a b : SL8) : a < b ∨ a = b ∨ b < a := by
  rcases Classical.em (a < b) with h | h
  · exact .inl h
  · rcases Classical.em (a = b) with h2 | h2
    · exact .inr (.inl h2)
    · exact .inr (.inr (s8_lt_of_le_ne (s8_not_lt.1 h) (fun e => h2 e.symm)))
theorem less_no {a b : SL8} (h : ¬ a < b) : Op.bytesLess a b = false := by rw [bytesLess_eq]; simpa using h
theorem less_yes {a b : SL8} (h : a < b) : Op.bytesLess a b = true := by rw [bytesLess_eq]; simpa using h
theorem RdL.atB {w : World} {B n c : Nat} {A : Option Addr} {ls : List SL8} (h : RdL cs1 1 w B A n c (ls.map b8)) {k : Nat} (hk : k < n) :
    ∃ b off y, A = some ⟨b, off, none⟩ ∧ b < B ∧ Hid (ls.getD k [] = y) ∧ w.cell? ⟨b, off + k, none⟩ = some (.string (b8 y)) := by
  obtain ⟨b, off, x, e, hb, hx, hc⟩ := h.atS hk
  have h2 := hx.out
  rw [List.getElem?_map, Option.map_eq_some_iff] at h2
  obtain ⟨y, hy, rfl⟩ := h2
  exact ⟨b, off, y, e, hb, by unfold Hid; rw [List.getD_eq_getElem?_getD, hy]; rfl, hc⟩
theorem insCells {w w' : World} {b0 n c K : Nat} {ls : List SL8} (h : RdL cs1 1 w w.heap.size (some ⟨b0, 0, none⟩) n c (ls.map b8)) (hb : Below w.heap.size w w') (hK : K ≤ n) :
    ∀ j u, (((ls.map b8).take K).flatMap cs1)[j]? = some u → w'.cell? ⟨b0, 0 + j, none⟩ = some u := by
  intro j u hu
  have h1 := RdL.sub cs1_len (h.below hb) (a := 0) (k := K) (by omega)
  obtain ⟨_, _, _, _, h4⟩ := h1
  rcases Nat.eq_zero_or_pos K with h0 | h0
  · subst h0; simp at hu
  · obtain ⟨b, off, e, _, hc⟩ := h4 h0
    cases e
    have h2 := hc j u (by simpa using hu)
    simpa using h2
theorem insCells' {w w' : World} {b0 n c K : Nat} {ls : List SL8} (h : RdL cs1 1 w w.heap.size (some ⟨b0, 0, none⟩) n c (ls.map b8)) (hb : Below w.heap.size w w') (hK : K ≤ n) :
    ∀ j u, (((ls.map b8).take K).flatMap cs1)[j]? = some u → w'.cell? ⟨b0, j, none⟩ = some u := by
  intro j u hu
  have h1 := insCells h hb hK j u hu
  simpa using h1
theorem insCells2 {w w' : World} {b0 n c K : Nat} {ls : List SL8} (h : RdL cs1 1 w w.heap.size (some ⟨b0, 0, none⟩) n c (ls.map b8)) (hb : Below w.heap.size w w') (hK : K ≤ n) :
    ∀ j u, (((ls.map b8).drop K).flatMap cs1)[j]? = some u → w'.cell? ⟨b0, K + j, none⟩ = some u := by
  intro j u hu
  have hl := h.len
  have h1 := RdL.sub cs1_len (h.below hb) (a := K) (k := n - K) (by omega)
  obtain ⟨_, _, _, _, h4⟩ := h1
  rcases Nat.eq_zero_or_pos (n - K) with h0 | h0
  · rw [List.drop_of_length_le (by omega)] at hu; simp at hu
  · obtain ⟨b, off, e, _, hc⟩ := h4 h0
    cases e
    have h2 := hc j u (by rw [List.take_of_length_le (by rw [List.length_drop]; omega)]; exact hu)
    simpa using h2
theorem insCells0 {w w' : World} {b0 n c K : Nat} {ls : List SL8} (h : RdL cs1 1 w w.heap.size (some ⟨b0, 0, none⟩) n c (ls.map b8)) (hK : n ≤ K) :
    ∀ j u, (((ls.map b8).drop K).flatMap cs1)[j]? = some u → w'.cell? ⟨b0, 0 + j, none⟩ = some u := by
  intro j u hu
  have hl := h.len
  rw [List.drop_of_length_le (by omega)] at hu; simp at hu
theorem own_eq {w : World} {b t s n : Nat} {v : Value} {xs ys : List Value} (h : w.ownsRow b t s v n xs) (e : xs = ys) : w.ownsRow b t s v n ys := e ▸ h
theorem Cell1s.new (w : World) (t : TypeId) (s : ByteArray) : ∀ j u, ([s].flatMap cs1)[j]? = some u → (w.alloc (.cells #[.string s] t)).cell? ⟨w.heap.size, j, none⟩ = some u := by
  intro j u hu
  have hk := (Blk.new w t #[.string s]).cell j
  rw [hk]
  match j, hu with
  | 0, hu => simpa [cs1] using hu
  | j + 1, hu => simp [cs1] at hu
set_option maxRecDepth 100000 in
set_option maxHeartbeats 4000000 in
theorem l11Insert_any (b0 n c : Nat) (ls : List SL8) (s : ByteArray) (w : World) (hr : RdL cs1 1 w w.heap.size (some ⟨b0, 0, none⟩) n c (ls.map b8)) (hn : n ≤ 100000) (hs : s.size ≤ maxLen) :
    Calls Try.prog 64 #[.slice (some ⟨b0, 0, none⟩) n c, .string s] w fun e w' => ∃ (g n' c' : Nat), e = .returned (.slice (some ⟨g, 0, none⟩) n' c') ∧ (insL ls s.data.toList).length = n' ∧ n' ≤ n + 1 ∧
      ((g = b0 ∧ n' = n ∧ c' = c ∧ insL ls s.data.toList = ls) ∨ w'.ownsRow w.heap.size 9 1 (.slice (some ⟨g, 0, none⟩) n' c') n' (((insL ls s.data.toList).map b8).flatMap cs1)) ∧ Below w.heap.size w w' := by
  obtain ⟨i0, hi, hz0, hz1, hz2⟩ := info_parts (show (Try.prog.info? 9).map (fun i => (i.zero, i.size, i.bytes)) = some (some (.string ⟨#[]⟩), 1, 16) by kernel_rfl)
  have hl : ls.length = n := by have h := hr.len; simpa using h
  have HL := Lib.hid hl
  have HR := Lib.hid hr
  have hcap := hr.cap
  have hcapm := hr.capm
  clear hr hl
  go_enter Try.func64, Try.ntmps64
  go_wp2_with fail
  go_loopw [5] (fun i wr => ∃ k : Nat, k ≤ n ∧ i = .int .i64 k ∧ Hid (slotL ls s.data.toList n = slotL ls s.data.toList k) ∧ wr = w) (fun i _ => (intOf i).toNat)
  case atStart => exact ⟨n, Nat.le_refl _, rfl, rfl, rfl⟩
  case round =>
    obtain ⟨k, hk, rfl, hsl, rfl⟩ := hrel
    match k, hk, hsl with
    | 0, hk, hsl =>
      have HP := Lib.hid (insL_put0 (l := ls) (t := s.data.toList) (by rw [HL.out]; exact hsl.out.trans rfl))
      clear hsl
      go_wp2_with (at_builtin; with_reducible refine app_more _ cs1_len oneS1 rfl (.tmp 34) (.tmp 37) 98 rfl wr.heap.size 9 i0 _ Try.underlying98 hi hz0 hz1 hz2 rfl (by decide) (by decide) (some ⟨wr.heap.size, 0, none⟩) 0 0 [] rfl ?_ b0 0 0 c ((ls.map b8).take (0)) rfl ?_ ?_ 0 (by omega) ?_ ?_ ?_)
      all_goals have h9 := HL.out
      all_goals first | omega | (exact insCells HR.out ((Below.refl _ _).alloc (Nat.le_refl _) _) (by omega)) | (exact insCells' HR.out (Below.refl _ _) (by omega)) | (rw [List.length_take, List.length_map]; omega) | (intro A1 c1 w1 (ho1 : (World.ownsRow _ _ _ _ _ _ _)) hb1) | (simp; done) | (simpa using World.ownsRow_lit (base := wr.heap.size) (e := 9) (size := 1) wr #[] 0 (Nat.le_refl _) (by simp [maxLen]) rfl) | (simp; omega) | (simp; done)
      have O1 := Lib.hid ho1
      have B1 := ((Below.refl wr.heap.size wr).alloc (Nat.le_refl _) (.cells #[] 9)).trans hb1
      have z1 := B1.size
      clear ho1 hb1
      go_wp2_with (at_builtin; with_reducible refine app_more _ cs1_len oneS1 rfl (.tmp 39) (.tmp 41) 98 rfl wr.heap.size 9 i0 _ Try.underlying98 hi hz0 hz1 hz2 rfl (by decide) (by decide) A1 0 c1 ([] : List ByteArray) rfl (own_eq (O1.out.alloc _) (by simp)) w1.heap.size 0 1 1 [s] rfl rfl ?_ 1 (by omega) ?_ ?_ ?_)
      all_goals first | omega | (intro j u hu; have h8 := Cell1s.new w1 9 s j u (by simpa using hu); simpa using h8) | (intro A2 c2 w2 (ho2 : (World.ownsRow _ _ _ _ _ _ _)) hb2) | (simp; omega) | (simp; done)
      have O2 := Lib.hid ho2
      have B2 := (B1.alloc z1 (.cells #[.string s] 9)).trans hb2
      have z2 := B2.size
      clear ho2 hb2
      go_wp2_with (at_builtin; with_reducible refine app_more _ cs1_len oneS1 rfl (.tmp 43) (.tmp 46) 98 rfl wr.heap.size 9 i0 _ Try.underlying98 hi hz0 hz1 hz2 rfl (by decide) (by decide) A2 1 c2 [s] rfl (own_eq O2.out (by simp)) b0 0 n _ ((ls.map b8).drop (0)) rfl ?_ ?_ (n + 1) (by omega) ?_ ?_ ?_)
      all_goals first | omega | (exact insCells2 HR.out B2 (by omega)) | (rw [List.length_drop, List.length_map]; omega) | (intro A3 c3 w3 (ho3 : (World.ownsRow _ _ _ _ _ _ _)) hb3) | (intro j u hu; have h8 := insCells2 HR.out B2 (by omega) j u (by simpa using hu); simpa using h8) | (simp; omega) | (simp; done)
      have B3 := B2.trans hb3
      have hlen : (insL ls s.data.toList).length = n + 1 := by rw [HP.out, List.length_append, List.length_append, List.length_take, List.length_drop, List.length_singleton]; omega
      obtain ⟨g, rfl, hg0, hg1⟩ := own_at ho3 (by omega)
      go_wp2
      go_ret
      refine ⟨g, n + 1, c3, rfl, hlen, Nat.le_refl _, .inr ?_, B3⟩
      rw [HP.out]
      refine own_eq ho3 ?_
      simp [List.map_take, List.map_drop, b8_back, List.flatMap_append]
    | k + 1, hk, hsl =>
      obtain ⟨b, off, y, e0, hbl, hy, q0⟩ := HR.out.atB (k := k) (by omega)
      cases e0
      rw [Nat.zero_add] at q0
      have j0 : IntKind.i64.wrap (((k + 1 : Nat) : Int) - 1) = (k : Int) := by rw [IntWalk.i64_in _ (by omega)]; omega
      have j1 : (0 : Int) < ((k + 1 : Nat) : Int) := by omega
      have j2 : (k : Int) < (n : Int) := by omega
      have j3 : (0 : Int) ≤ (k : Int) := by omega
      have e1 : (b8 y).toList = y := b8_list _
      have e2 : s.toList = s.data.toList := ByteArray.toList_eq _
      rcases s8_cases y s.data.toList with hc | hc | hc
      · have c1 : Op.bytesLess (b8 y).toList s.toList = true := by rw [e1, e2]; exact less_yes hc
        have c2 : ((b8 y).toList == s.toList) = false := by rw [e1, e2]; simp; intro e; rw [e] at hc; exact s8_irrefl _ hc
        have HP := Lib.hid (insL_put (l := ls) (t := s.data.toList) (k := k) (by rw [HL.out]; exact hsl.out.trans (slotL_le1 (by rw [hy.out]; exact fun h => s8_irrefl _ (s8_trans h hc)))) (by rw [hy.out]; intro e; rw [e] at hc; exact s8_irrefl _ hc))
        clear e1 e2 hc
        by_cases hcc : c = k + 1
        · have hnk : n = k + 1 := by omega
          subst hcc
          subst hnk
          go_wp2_with (at_builtin; with_reducible refine app_more _ cs1_len oneS1 rfl (.tmp 34) (.tmp 37) 98 rfl wr.heap.size 9 i0 _ Try.underlying98 hi hz0 hz1 hz2 rfl (by decide) (by decide) (some ⟨wr.heap.size, 0, none⟩) 0 0 [] rfl ?_ b0 0 (k+1) (k + 1) ((ls.map b8).take ((k+1))) rfl ?_ ?_ (k+1) (by omega) ?_ ?_ ?_)
          all_goals have h9 := HL.out
          all_goals first | omega | (exact insCells HR.out ((Below.refl _ _).alloc (Nat.le_refl _) _) (by omega)) | (exact insCells' HR.out (Below.refl _ _) (by omega)) | (rw [List.length_take, List.length_map]; omega) | (intro A1 c1 w1 (ho1 : (World.ownsRow _ _ _ _ _ _ _)) hb1) | (simp; done) | (simpa using World.ownsRow_lit (base := wr.heap.size) (e := 9) (size := 1) wr #[] 0 (Nat.le_refl _) (by simp [maxLen]) rfl) | (simp; omega) | (simp; done)
          have O1 := Lib.hid ho1
          have B1 := ((Below.refl wr.heap.size wr).alloc (Nat.le_refl _) (.cells #[] 9)).trans hb1
          have z1 := B1.size
          clear ho1 hb1
          go_wp2_with (at_builtin; with_reducible refine app_more _ cs1_len oneS1 rfl (.tmp 39) (.tmp 41) 98 rfl wr.heap.size 9 i0 _ Try.underlying98 hi hz0 hz1 hz2 rfl (by decide) (by decide) A1 (k+1) c1 ((ls.map b8).take (k + 1)) rfl (own_eq (O1.out.alloc _) (by simp)) w1.heap.size 0 1 1 [s] rfl rfl ?_ (k + 1 + 1) (by omega) ?_ ?_ ?_)
          all_goals first | omega | (intro j u hu; have h8 := Cell1s.new w1 9 s j u (by simpa using hu); simpa using h8) | (intro A2 c2 w2 (ho2 : (World.ownsRow _ _ _ _ _ _ _)) hb2) | (simp; omega) | (simp; done)
          have O2 := Lib.hid ho2
          have B2 := (B1.alloc z1 (.cells #[.string s] 9)).trans hb2
          have z2 := B2.size
          clear ho2 hb2
          go_wp2_with (at_builtin; with_reducible refine app_more _ cs1_len oneS1 rfl (.tmp 43) (.tmp 46) 98 rfl wr.heap.size 9 i0 _ Try.underlying98 hi hz0 hz1 hz2 rfl (by decide) (by decide) A2 (k + 1 + 1) c2 ((ls.map b8).take (k + 1) ++ [s]) rfl (own_eq O2.out (by simp)) b0 0 0 _ ((ls.map b8).drop ((k+1))) rfl ?_ ?_ ((k + 1) + 1) (by omega) ?_ ?_ ?_)
          all_goals first | omega | (exact insCells0 HR.out (by omega)) | (rw [List.length_drop, List.length_map]; omega) | (intro A3 c3 w3 (ho3 : (World.ownsRow _ _ _ _ _ _ _)) hb3) | (intro j u hu; have h8 := insCells0 HR.out (by omega) j u (by simpa using hu); simpa using h8) | (simp; omega) | (simp; done)
          have B3 := B2.trans hb3
          have hlen : (insL ls s.data.toList).length = (k + 1) + 1 := by rw [HP.out, List.length_append, List.length_append, List.length_take, List.length_drop, List.length_singleton]; omega
          obtain ⟨g, rfl, hg0, hg1⟩ := own_at ho3 (by omega)
          go_wp2
          go_ret
          refine ⟨g, (k + 1) + 1, c3, rfl, hlen, Nat.le_refl _, .inr ?_, B3⟩
          rw [HP.out]
          refine own_eq ho3 ?_
          simp [List.map_take, List.map_drop, b8_back, List.flatMap_append]
        · have hcc9 := hcc
          go_wp2_with (at_builtin; with_reducible refine app_more _ cs1_len oneS1 rfl (.tmp 34) (.tmp 37) 98 rfl wr.heap.size 9 i0 _ Try.underlying98 hi hz0 hz1 hz2 rfl (by decide) (by decide) (some ⟨wr.heap.size, 0, none⟩) 0 0 [] rfl ?_ b0 0 (k+1) c ((ls.map b8).take ((k+1))) rfl ?_ ?_ (k+1) (by omega) ?_ ?_ ?_)
          all_goals have h9 := HL.out
          all_goals first | omega | (exact insCells HR.out ((Below.refl _ _).alloc (Nat.le_refl _) _) (by omega)) | (exact insCells' HR.out (Below.refl _ _) (by omega)) | (rw [List.length_take, List.length_map]; omega) | (intro A1 c1 w1 (ho1 : (World.ownsRow _ _ _ _ _ _ _)) hb1) | (simp; done) | (simpa using World.ownsRow_lit (base := wr.heap.size) (e := 9) (size := 1) wr #[] 0 (Nat.le_refl _) (by simp [maxLen]) rfl) | (simp; omega) | (simp; done)
          have O1 := Lib.hid ho1
          have B1 := ((Below.refl wr.heap.size wr).alloc (Nat.le_refl _) (.cells #[] 9)).trans hb1
          have z1 := B1.size
          clear ho1 hb1
          go_wp2_with (at_builtin; with_reducible refine app_more _ cs1_len oneS1 rfl (.tmp 39) (.tmp 41) 98 rfl wr.heap.size 9 i0 _ Try.underlying98 hi hz0 hz1 hz2 rfl (by decide) (by decide) A1 (k+1) c1 ((ls.map b8).take (k + 1)) rfl (own_eq (O1.out.alloc _) (by simp)) w1.heap.size 0 1 1 [s] rfl rfl ?_ (k + 1 + 1) (by omega) ?_ ?_ ?_)
          all_goals first | omega | (intro j u hu; have h8 := Cell1s.new w1 9 s j u (by simpa using hu); simpa using h8) | (intro A2 c2 w2 (ho2 : (World.ownsRow _ _ _ _ _ _ _)) hb2) | (simp; omega) | (simp; done)
          have O2 := Lib.hid ho2
          have B2 := (B1.alloc z1 (.cells #[.string s] 9)).trans hb2
          have z2 := B2.size
          clear ho2 hb2
          go_wp2_with (at_builtin; with_reducible refine app_more _ cs1_len oneS1 rfl (.tmp 43) (.tmp 46) 98 rfl wr.heap.size 9 i0 _ Try.underlying98 hi hz0 hz1 hz2 rfl (by decide) (by decide) A2 (k + 1 + 1) c2 ((ls.map b8).take (k + 1) ++ [s]) rfl (own_eq O2.out (by simp)) b0 (k+1) (n - (k + 1)) _ ((ls.map b8).drop ((k+1))) rfl ?_ ?_ (n + 1) (by omega) ?_ ?_ ?_)
          all_goals first | omega | (exact insCells2 HR.out B2 (by omega)) | (rw [List.length_drop, List.length_map]; omega) | (intro A3 c3 w3 (ho3 : (World.ownsRow _ _ _ _ _ _ _)) hb3) | (intro j u hu; have h8 := insCells2 HR.out B2 (by omega) j u (by simpa using hu); simpa using h8) | (simp; omega) | (simp; done)
          have B3 := B2.trans hb3
          have hlen : (insL ls s.data.toList).length = n + 1 := by rw [HP.out, List.length_append, List.length_append, List.length_take, List.length_drop, List.length_singleton]; omega
          obtain ⟨g, rfl, hg0, hg1⟩ := own_at ho3 (by omega)
          go_wp2
          go_ret
          refine ⟨g, n + 1, c3, rfl, hlen, Nat.le_refl _, .inr ?_, B3⟩
          rw [HP.out]
          refine own_eq ho3 ?_
          simp [List.map_take, List.map_drop, b8_back, List.flatMap_append]
      · have c1 : Op.bytesLess (b8 y).toList s.toList = false := by rw [e1, e2, hc]; exact less_no (s8_irrefl _)
        have c2 : ((b8 y).toList == s.toList) = true := by rw [e1, e2, hc]; simp
        have HP := Lib.hid (insL_same (l := ls) (t := s.data.toList) (k := k) (by rw [HL.out]; exact hsl.out.trans (slotL_le1 (by rw [hy.out, hc]; exact s8_irrefl _))) (hy.out.trans hc))
        clear e1 e2 hc
        go_wp2
        go_ret
        exact ⟨b0, n, c, rfl, by rw [HP.out]; exact HL.out, by omega, .inl ⟨rfl, rfl, rfl, HP.out⟩, Below.refl _ _⟩
      · have c1 : Op.bytesLess (b8 y).toList s.toList = false := by rw [e1, e2]; exact less_no (fun h => s8_irrefl _ (s8_trans h hc))
        have c2 : ((b8 y).toList == s.toList) = false := by rw [e1, e2]; simp; intro e; rw [e] at hc; exact s8_irrefl _ hc
        have HP := Lib.hid (slotL_gt1 (l := ls) (t := s.data.toList) (k := k) (by rw [hy.out]; exact hc))
        clear e1 e2 hc
        go_wp2
        first | exact ⟨⟨k, by omega, rfl, hsl.out.trans HP.out, rfl⟩, by simp [intOf]⟩ | exact ⟨⟨k, by omega, rfl, hsl.out.trans HP.out, trivial⟩, by simp [intOf]⟩
end Go.Proofs.Ytkldejbhhbgefaa
