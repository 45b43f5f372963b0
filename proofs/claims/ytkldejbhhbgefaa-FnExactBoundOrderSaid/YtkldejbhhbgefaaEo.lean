/- Envelopes: made by the reference and by the program. -/
import Derived.Test.YtkldejbhhbgefaaEp
import Derived.Test.YtkldejbhhbgefaaRg
import Derived.Test.YtkldejbhhbgefaaEs
namespace Go.Proofs.Ytkldejbhhbgefaa
open Go.ChangeShapes Go.WideShapes Go.ChangeAt Go.RowKit
set_option linter.unusedVariables false
set_option linter.unusedSimpArgs false
theorem djN (B : Option Addr) : djB none B := fun a b ha _ => by cases ha
theorem djN' (B : Option Addr) : djB B none := fun a b _ hb => by cases hb
set_option maxHeartbeats 1000000 in
/-- append(row, v): the row grows; what else may have changed; where it lies. -/
theorem app_lies {ops : Array Oper} {rest : List Oper} {o : Oper} {a : Act} {Q : Exit → Act → World → Prop} (w : World) (hgd : o.guard = none) (s x : Operand)
    (ho : o.op = .call { callee := .builtin .append, args := #[s, x], argTypes := #[26, 26] }) (base n c c' : Nat) (A : Option Addr) (v : Int) (l : List Int)
    (hs : a.eval s = .slice A n c) (G : Nat) (hG : w.heap.size = G) (hx : a.eval x = .slice (some ⟨G, 0, none⟩) 1 c') (hown : w.ownsRow base 2 1 (.slice A n c) n (l.flatMap c1)) (hn : n ≤ 1048576) (hbase : base ≤ w.heap.size)
    (K : ∀ A' c'' w', w'.ownsRow base 2 1 (.slice A' (n + 1) c'') (n + 1) ((l ++ [v]).flatMap c1) → Ev2 w w' A none → frB w A A' → (∀ B, djB A B → (∀ b, B = some b → b.block < w.heap.size) → djB A' B) → wpList Try.prog ops Q rest (a.put o.dst (.slice A' (n + 1) c'')) w') :
    wpList Try.prog ops Q (o :: rest) a (w.alloc (.cells #[.int .i64 v] 2)) := by
  obtain ⟨i0, hi, hz0, hz1, hz2⟩ := info_parts Try.infoInt64
  subst hG
  have hb : Below w.heap.size w (w.alloc (.cells #[.int .i64 v] 2)) := (Below.refl _ _).alloc (Nat.le_refl _) _
  have hnew : (w.alloc (.cells #[.int .i64 v] 2)).cell? ⟨w.heap.size, 0, none⟩ = some (.int .i64 v) := (Blk.new w 2 #[.int .i64 v]).cell 0
  refine wpList_append_lies _ hgd s x _ ho base 2 i0 _ 1 8 Try.underlying26 hi hz0 hz1 hz2 rfl (by decide) _ n _ hs (own_below hown hb) ⟨w.heap.size, 0, none⟩ 1 c' [.int .i64 v] hx rfl ?_ (by intro u hu; simp at hu; subst hu; rfl) (by decide) (by unfold maxLen; omega) (by omega) (by rw [World.size_alloc]; omega) _ rfl ?_
  · intro j u hu
    match j, hu with
    | 0, hu => cases hu; exact hnew
  · intro g cap w' hown' hg hl hlt
    refine K _ _ w' (by rw [flat_snoc]; exact hown') (((Ev2.refl w A none).alloc _).grown hg (.inl rfl)) (fr_of (W := w) hl (by rw [World.size_alloc]; omega)) (fun B hd hB => dj_lies (base := 0) hl hd (fun b hb => ⟨by omega, by have := hB b hb; rw [World.size_alloc]; omega⟩))
/-- Four rows of their own, apart from one another. -/
def R4 (w : World) (base k : Nat) (A B C D : Option Addr) (ca cb cc cd : Nat) (la lb lc ld : List Int) : Prop :=
  w.ownsRow base 2 1 (.slice A k ca) k (la.flatMap c1) ∧ w.ownsRow base 2 1 (.slice B k cb) k (lb.flatMap c1) ∧ w.ownsRow base 2 1 (.slice C k cc) k (lc.flatMap c1) ∧ w.ownsRow base 2 1 (.slice D k cd) k (ld.flatMap c1) ∧
  djB A B ∧ djB A C ∧ djB A D ∧ djB B C ∧ djB B D ∧ djB C D
theorem R4.nil (w : World) (base : Nat) : R4 w base 0 none none none none 0 0 0 0 [] [] [] [] := ⟨World.ownsRow_nil _ _ _ _, World.ownsRow_nil _ _ _ _, World.ownsRow_nil _ _ _ _, World.ownsRow_nil _ _ _ _, djN _, djN _, djN _, djN _, djN _, djN _⟩
theorem blk4_at {w : World} {g : Nat} {t : TypeId} {a b c d : Value} (h : Blk w g t #[a, b, c, d]) : w.cell? ⟨g, 0, none⟩ = some a ∧ w.cell? ⟨g, 1, none⟩ = some b ∧ w.cell? ⟨g, 2, none⟩ = some c ∧ w.cell? ⟨g, 3, none⟩ = some d ∧ w.frozen? ⟨g, 0, none⟩ = false ∧ w.frozen? ⟨g, 1, none⟩ = false ∧ w.frozen? ⟨g, 2, none⟩ = false ∧ w.frozen? ⟨g, 3, none⟩ = false :=
  ⟨by rw [h.cell 0]; rfl, by rw [h.cell 1]; rfl, by rw [h.cell 2]; rfl, by rw [h.cell 3]; rfl, h.frozen 0, h.frozen 1, h.frozen 2, h.frozen 3⟩
set_option maxRecDepth 100000 in
set_option maxHeartbeats 4000000 in
theorem l10Range_pX (A : Option Addr) (n c : Nat) (xs : List T3) (fr to : Int) (a q : Nat) (w : World) (hr : RdL c3 3 w w.heap.size A n c xs) (hok : featsOk 72 xs = true) (hn : n ≤ 72) (hfr : max 0 fr = (a : Int)) (hq : min (n : Int) (to + 1) = (a + q : Nat)) (ht : to ≤ 1000) :
    Calls Try.prog 104 #[.slice A n c, .int .i64 fr, .int .i64 to, .bool false] w fun e w' => e = .returned (.tuple #[.int .i64 (mnW pX xs a q), .int .i64 (mxW pX xs a q)]) ∧ Below w.heap.size w w' := by
  have Hok := Lib.hid hok
  have HR := Lib.hid hr
  clear hok hr
  go_enter Try.func104, Try.ntmps104
  go_wp2_with (first | (go_at_call 82; with_reducible refine (l00Max_any _ _ _).mono ?_; rintro e w' ⟨rfl, rfl⟩))
  clear hfr
  go_loopw [10, 11, 12] (fun lo hi i wr => ∃ j : Nat, a ≤ j ∧ j ≤ a + q ∧ i = .int .i64 j ∧ lo = .int .i64 (mnW pX xs a (j - a)) ∧ hi = .int .i64 (mxW pX xs a (j - a)) ∧ Below w.heap.size w wr) (fun _ _ i _ => a + q - (intOf i).toNat)
  case atStart => exact ⟨a, by omega, by omega, rfl, by rw [Nat.sub_self]; rfl, by rw [Nat.sub_self]; rfl, Below.refl _ _⟩
  case round =>
    obtain ⟨j, hj0, hj1, rfl, rfl, rfl, hb⟩ := hrel
    by_cases hlt : j < a + q
    · obtain ⟨b, off, x, y, d, rfl, hbl, hx, q0, q1, q2⟩ := (HR.out.below hb).at3 (show j < n by omega)
      have z1 := hb.size
      replace hbl := Nat.lt_of_lt_of_le hbl z1
      have hjj : a + (j - a) = j := by omega
      have hj2 : j - a + 1 = j + 1 - a := by omega
      have H1 := Lib.hid (mnW_step (g := pX) (a := a) (k := j - a) hjj hx.out)
      have H2 := Lib.hid (mxW_step (g := pX) (a := a) (k := j - a) hjj hx.out)
      rw [hj2] at H1 H2
      obtain ⟨m0, hm0⟩ : ∃ m0, mnW pX xs a (j - a) = m0 := ⟨_, rfl⟩
      obtain ⟨m1, hm1⟩ : ∃ m1, mxW pX xs a (j - a) = m1 := ⟨_, rfl⟩
      rw [hm0] at H1
      rw [hm1] at H2
      rw [hm0, hm1]
      clear hm0 hm1 hjj hj2
      have i1 : (j : Int) ≤ to := by omega
      have i2 : (j : Int) < (n : Int) := by omega
      have i3 : (0 : Int) ≤ (j : Int) := by omega
      clear hq
      go_wp2_with (first | (go_at_call 82; with_reducible refine (l00Max_any _ _ _).mono ?_; rintro e w' ⟨rfl, rfl⟩) | (go_at_call 92; with_reducible refine (l00Min_any _ _ _).mono ?_; rintro e w' ⟨rfl, rfl⟩))
      exact ⟨⟨j + 1, by omega, by omega, by go_num, by rw [H1.out]; rfl, by rw [H2.out]; rfl, hb⟩, by simp [intOf]; omega⟩
    · have hjq : j - a = q := by omega
      rw [hjq]
      by_cases hto : (j : Int) ≤ to
      · have i2 : ¬ (j : Int) < (n : Int) := by omega
        clear hq
        go_wp2
        go_ret2
        exact ⟨rfl, hb⟩
      · clear hq
        go_wp2
        go_ret2
        exact ⟨rfl, hb⟩
set_option maxRecDepth 100000 in
set_option maxHeartbeats 4000000 in
theorem l10Range_pY (A : Option Addr) (n c : Nat) (xs : List T3) (fr to : Int) (a q : Nat) (w : World) (hr : RdL c3 3 w w.heap.size A n c xs) (hok : featsOk 72 xs = true) (hn : n ≤ 72) (hfr : max 0 fr = (a : Int)) (hq : min (n : Int) (to + 1) = (a + q : Nat)) (ht : to ≤ 1000) :
    Calls Try.prog 104 #[.slice A n c, .int .i64 fr, .int .i64 to, .bool true] w fun e w' => e = .returned (.tuple #[.int .i64 (mnW pY xs a q), .int .i64 (mxW pY xs a q)]) ∧ Below w.heap.size w w' := by
  have Hok := Lib.hid hok
  have HR := Lib.hid hr
  clear hok hr
  go_enter Try.func104, Try.ntmps104
  go_wp2_with (first | (go_at_call 82; with_reducible refine (l00Max_any _ _ _).mono ?_; rintro e w' ⟨rfl, rfl⟩))
  clear hfr
  go_loopw [10, 11, 12] (fun lo hi i wr => ∃ j : Nat, a ≤ j ∧ j ≤ a + q ∧ i = .int .i64 j ∧ lo = .int .i64 (mnW pY xs a (j - a)) ∧ hi = .int .i64 (mxW pY xs a (j - a)) ∧ Below w.heap.size w wr) (fun _ _ i _ => a + q - (intOf i).toNat)
  case atStart => exact ⟨a, by omega, by omega, rfl, by rw [Nat.sub_self]; rfl, by rw [Nat.sub_self]; rfl, Below.refl _ _⟩
  case round =>
    obtain ⟨j, hj0, hj1, rfl, rfl, rfl, hb⟩ := hrel
    by_cases hlt : j < a + q
    · obtain ⟨b, off, x, y, d, rfl, hbl, hx, q0, q1, q2⟩ := (HR.out.below hb).at3 (show j < n by omega)
      have z1 := hb.size
      replace hbl := Nat.lt_of_lt_of_le hbl z1
      have hjj : a + (j - a) = j := by omega
      have hj2 : j - a + 1 = j + 1 - a := by omega
      have H1 := Lib.hid (mnW_step (g := pY) (a := a) (k := j - a) hjj hx.out)
      have H2 := Lib.hid (mxW_step (g := pY) (a := a) (k := j - a) hjj hx.out)
      rw [hj2] at H1 H2
      obtain ⟨m0, hm0⟩ : ∃ m0, mnW pY xs a (j - a) = m0 := ⟨_, rfl⟩
      obtain ⟨m1, hm1⟩ : ∃ m1, mxW pY xs a (j - a) = m1 := ⟨_, rfl⟩
      rw [hm0] at H1
      rw [hm1] at H2
      rw [hm0, hm1]
      clear hm0 hm1 hjj hj2
      have i1 : (j : Int) ≤ to := by omega
      have i2 : (j : Int) < (n : Int) := by omega
      have i3 : (0 : Int) ≤ (j : Int) := by omega
      clear hq
      go_wp2_with (first | (go_at_call 82; with_reducible refine (l00Max_any _ _ _).mono ?_; rintro e w' ⟨rfl, rfl⟩) | (go_at_call 92; with_reducible refine (l00Min_any _ _ _).mono ?_; rintro e w' ⟨rfl, rfl⟩))
      exact ⟨⟨j + 1, by omega, by omega, by go_num, by rw [H1.out]; rfl, by rw [H2.out]; rfl, hb⟩, by simp [intOf]; omega⟩
    · have hjq : j - a = q := by omega
      rw [hjq]
      by_cases hto : (j : Int) ≤ to
      · have i2 : ¬ (j : Int) < (n : Int) := by omega
        clear hq
        go_wp2
        go_ret2
        exact ⟨rfl, hb⟩
      · clear hq
        go_wp2
        go_ret2
        exact ⟨rfl, hb⟩
set_option maxRecDepth 100000 in
set_option maxHeartbeats 8000000 in
theorem l10Of_any (Q : Option Addr) (n c : Nat) (xs : List T3) (N bd : Nat) (w : World) (hr : RdL c3 3 w w.heap.size Q n c xs) (hok : featsOk 72 xs = true) (hn1 : 1 ≤ n) (hn : n ≤ 72) (hN : N ≤ 72) (hbd : bd ≤ 72) (hNn : N ≤ n + bd) :
    Calls Try.prog 81 #[.slice Q n c, .int .i64 N, .int .i64 bd] w fun e w' => ∃ A B C D ca cb cc cd, e = .returned (.agg #[.slice A N ca, .slice B N cb, .slice C N cc, .slice D N cd]) ∧
      R4 w' w.heap.size N A B C D ca cb cc cd (mnL pX xs bd N) (mxL pX xs bd N) (mnL pY xs bd N) (mxL pY xs bd N) ∧ Below w.heap.size w w' := by
  have hl := Lib.hid hr.len
  have Hok := Lib.hid hok
  have HR := Lib.hid hr
  clear hok hr
  have KO : Blk ((w.alloc (.cells #[.slice none 0 0, .slice none 0 0, .slice none 0 0, .slice none 0 0] 117)).alloc (.cells #[.slice none 0 0, .slice none 0 0, .slice none 0 0, .slice none 0 0] 117)) w.heap.size 117 #[.slice none 0 0, .slice none 0 0, .slice none 0 0, .slice none 0 0] := (Blk.new _ _ _).alloc _
  have KE : Blk ((w.alloc (.cells #[.slice none 0 0, .slice none 0 0, .slice none 0 0, .slice none 0 0] 117)).alloc (.cells #[.slice none 0 0, .slice none 0 0, .slice none 0 0, .slice none 0 0] 117)) (w.heap.size + 1) 117 #[.slice none 0 0, .slice none 0 0, .slice none 0 0, .slice none 0 0] := by have h := Blk.new (w.alloc (.cells #[.slice none 0 0, .slice none 0 0, .slice none 0 0, .slice none 0 0] 117)) 117 #[.slice none 0 0, .slice none 0 0, .slice none 0 0, .slice none 0 0]; simpa using h
  have hB : Below w.heap.size w ((w.alloc (.cells #[.slice none 0 0, .slice none 0 0, .slice none 0 0, .slice none 0 0] 117)).alloc (.cells #[.slice none 0 0, .slice none 0 0, .slice none 0 0, .slice none 0 0] 117)) := (by repeat (first | exact Below.refl _ _ | assumption | refine Below.drew ?_ | refine below_drewN ?_ _ | refine Below.alloc ?_ (by first | omega | (simp <;> omega)) _ | refine Below.setCell ?_ (by first | omega | (simp <;> omega)) _))
  go_enter Try.func81, Try.ntmps81
  go_wp2_with fail
  generalize (w.alloc (.cells #[.slice none 0 0, .slice none 0 0, .slice none 0 0, .slice none 0 0] 117)).alloc (.cells #[.slice none 0 0, .slice none 0 0, .slice none 0 0, .slice none 0 0] 117) = v at *
  go_loopw [8] (fun i wr => ∃ (k ca cb cc cd : Nat) (A B C D : Option Addr), k ≤ N ∧ i = .int .i64 k ∧ Below w.heap.size w wr ∧ Blk wr w.heap.size 117 #[.slice none 0 0, .slice none 0 0, .slice none 0 0, .slice none 0 0] ∧ Blk wr (w.heap.size + 1) 117 #[.slice A k ca, .slice B k cb, .slice C k cc, .slice D k cd] ∧
      Hid (R4 wr (w.heap.size + 2) k A B C D ca cb cc cd (mnL pX xs bd k) (mxL pX xs bd k) (mnL pY xs bd k) (mxL pY xs bd k))) (fun i _ => N - (intOf i).toNat)
  case atStart => exact ⟨0, 0, 0, 0, 0, none, none, none, none, by omega, rfl, hB, KO, KE, R4.nil _ _⟩
  case round =>
    clear hB KO KE
    obtain ⟨k, ca, cb, cc, cd, A, B, C, D, hk, rfl, hb, KO, KE, HR4⟩ := hrel
    by_cases hlt : k < N
    · obtain ⟨w1_, w2_, w3_, w4_⟩ := win_ok (n := N) (m := n) (bd := bd) hlt hn1 hNn
      have i1 : (k : Int) < (N : Int) := by omega
      have o1 : IntKind.i64.wrap ((k : Int) - (bd : Int)) = (k : Int) - (bd : Int) := IntWalk.i64_in _ (by omega)
      have o2 : IntKind.i64.wrap ((k : Int) + (bd : Int)) = (k : Int) + (bd : Int) := IntWalk.i64_in _ (by omega)
      have F1 : max 0 ((k : Int) - (bd : Int)) = ((k - bd : Nat) : Int) := by omega
      have F2 : min (n : Int) ((k : Int) + (bd : Int) + 1) = ((k - bd + wMany n bd k : Nat) : Int) := by rw [w4_]; omega
      have F3 : (k : Int) + (bd : Int) ≤ 1000 := by omega
      have G1 := Lib.hid (And.intro F1 (And.intro F2 F3))
      clear F1 F2 F3 w1_ w2_ w3_ w4_
      go_wp2_with fail
      with_reducible refine (l10Range_pX _ _ _ xs _ _ (k - bd) (wMany n bd k) _ (HR.out.on hb) Hok.out hn G1.out.1 G1.out.2.1 G1.out.2.2).mono ?_
      rintro e w1 ⟨rfl, hb1⟩
      replace hb := below_on hb1 hb
      replace KO := KO.on hb1
      replace KE := KE.on hb1
      go_wp2_with fail
      with_reducible refine (l10Range_pY _ _ _ xs _ _ (k - bd) (wMany n bd k) _ (HR.out.on hb) Hok.out hn G1.out.1 G1.out.2.1 G1.out.2.2).mono ?_
      rintro e w2 ⟨rfl, hb2⟩
      replace hb := below_on hb2 hb
      replace KO := KO.on hb2
      replace KE := KE.on hb2
      clear o1 o2
      obtain ⟨oA, oB, oC, oD, jAB, jAC, jAD, jBC, jBD, jCD⟩ := HR4.out
      replace oA := own_below (own_below oA hb1) hb2
      replace oB := own_below (own_below oB hb1) hb2
      replace oC := own_below (own_below oC hb1) hb2
      replace oD := own_below (own_below oD hb1) hb2
      clear HR4
      have HF : Hid (mnL pX xs bd (k + 1) = mnL pX xs bd k ++ [mnW pX xs (k - bd) (wMany n bd k)] ∧ mxL pX xs bd (k + 1) = mxL pX xs bd k ++ [mxW pX xs (k - bd) (wMany n bd k)] ∧ mnL pY xs bd (k + 1) = mnL pY xs bd k ++ [mnW pY xs (k - bd) (wMany n bd k)] ∧ mxL pY xs bd (k + 1) = mxL pY xs bd k ++ [mxW pY xs (k - bd) (wMany n bd k)]) := ⟨by rw [mnL_step, hl.out], by rw [mxL_step, hl.out], by rw [mnL_step, hl.out], by rw [mxL_step, hl.out]⟩
      obtain ⟨u0, hu0⟩ : ∃ u, mnW pX xs (k - bd) (wMany n bd k) = u := ⟨_, rfl⟩
      obtain ⟨u1, hu1⟩ : ∃ u, mxW pX xs (k - bd) (wMany n bd k) = u := ⟨_, rfl⟩
      obtain ⟨u2, hu2⟩ : ∃ u, mnW pY xs (k - bd) (wMany n bd k) = u := ⟨_, rfl⟩
      obtain ⟨u3, hu3⟩ : ∃ u, mxW pY xs (k - bd) (wMany n bd k) = u := ⟨_, rfl⟩
      rw [hu0, hu1, hu2, hu3] at HF
      simp only [hu0, hu1, hu2, hu3]
      clear hu0 hu1 hu2 hu3
      generalize mnL pX xs bd k = L0 at *
      generalize mxL pX xs bd k = L1 at *
      generalize mnL pY xs bd k = L2 at *
      generalize mxL pY xs bd k = L3 at *
      have zE := KE.lt
      obtain ⟨e0, e1, e2, e3, f0, f1, f2, f3⟩ := blk4_at KE
      have P := Lib.hid (And.intro KO (And.intro KE (And.intro hb (And.intro oA (And.intro oB (And.intro oC oD))))))
      clear KO KE oA oB oC oD hb
      go_wp2_with (at_builtin; refine app_lies (w2) rfl (.tmp 42) (.tmp 44) rfl (w.heap.size + 2) k _ 1 A u0 L0 rfl _ rfl rfl P.out.2.2.2.1 (by omega) (by have := P.out.2.1.lt; omega) ?_)
      intro A' ca' w3 oA hE hfr hdj
      clear zE e0 e1 e2 e3 f0 f1 f2 f3
      obtain ⟨KO, KE, hb, p0, p1, p2, p3⟩ := P.out
      clear P
      have zE := KE.lt
      have lA := own_blk p0
      have lB := own_blk p1
      have lC := own_blk p2
      have lD := own_blk p3
      have oB := hE.own p1 (jAB) (djN _)
      replace jAB := (hdj _ (jAB) (fun b hb => by have h9 := (lB b hb).2; first | exact h9 | (simp [World.setCell] at h9; exact h9)))
      have oC := hE.own p2 (jAC) (djN _)
      replace jAC := (hdj _ (jAC) (fun b hb => by have h9 := (lC b hb).2; first | exact h9 | (simp [World.setCell] at h9; exact h9)))
      have oD := hE.own p3 (jAD) (djN _)
      replace jAD := (hdj _ (jAD) (fun b hb => by have h9 := (lD b hb).2; first | exact h9 | (simp [World.setCell] at h9; exact h9)))
      replace KO := hE.blk KO (fun a ha => by have h9 := (lA a ha).1; omega) (fun a ha => by cases ha)
      replace KE := hE.blk KE (fun a ha => by have h9 := (lA a ha).1; omega) (fun a ha => by cases ha)
      replace hb : Below w.heap.size w w3 := hb.trans (hE.below (by omega) (fun a ha => by have h9 := (lA a ha).1; omega) (fun a ha => by cases ha))
      clear lA lB lC lD hE hfr hdj p0 p1 p2 p3 zE
      obtain ⟨e0, e1, e2, e3, f0, f1, f2, f3⟩ := blk4_at KE
      have zE := KE.lt
      replace KO := KO.far (p := ⟨w.heap.size + 1, 0, none⟩) (by simp only; omega) (.slice A' (k + 1) ca')
      replace KE := KE.set_ 0 (.slice A' (k + 1) ca')
      replace hb := hb.setCell (p := ⟨w.heap.size + 1, 0, none⟩) (by simp only; omega) (.slice A' (k + 1) ca')
      replace oA := ownsRow_setCell_below (a := ⟨w.heap.size + 1, 0, none⟩) oA (by simp only; omega) (.slice A' (k + 1) ca')
      replace oB := ownsRow_setCell_below (a := ⟨w.heap.size + 1, 0, none⟩) oB (by simp only; omega) (.slice A' (k + 1) ca')
      replace oC := ownsRow_setCell_below (a := ⟨w.heap.size + 1, 0, none⟩) oC (by simp only; omega) (.slice A' (k + 1) ca')
      replace oD := ownsRow_setCell_below (a := ⟨w.heap.size + 1, 0, none⟩) oD (by simp only; omega) (.slice A' (k + 1) ca')
      simp only [List.setIfInBounds_toArray, List.set_cons_zero, List.set_cons_succ] at KE
      have P := Lib.hid (And.intro KO (And.intro KE (And.intro hb (And.intro oA (And.intro oB (And.intro oC oD))))))
      clear KO KE oA oB oC oD hb
      go_wp2_with (at_builtin; refine app_lies (w3.setCell ⟨w.heap.size + 1, 0, none⟩ (.slice A' (k + 1) ca')) rfl (.tmp 48) (.tmp 50) rfl (w.heap.size + 2) k _ 1 B u1 L1 rfl _ (by simp [World.setCell]) rfl P.out.2.2.2.2.1 (by omega) (by have := P.out.2.1.lt; omega) ?_)
      intro B' cb' w4 oB hE hfr hdj
      clear zE e0 e1 e2 e3 f0 f1 f2 f3
      obtain ⟨KO, KE, hb, p0, p1, p2, p3⟩ := P.out
      clear P
      have zE := KE.lt
      have lA := own_blk p0
      have lB := own_blk p1
      have lC := own_blk p2
      have lD := own_blk p3
      have oA := hE.own p0 ((jAB).sym) (djN _)
      replace jAB := (hdj _ ((jAB).sym) (fun b hb => by have h9 := (lA b hb).2; first | exact h9 | (simp [World.setCell] at h9; exact h9))).sym
      have oC := hE.own p2 (jBC) (djN _)
      replace jBC := (hdj _ (jBC) (fun b hb => by have h9 := (lC b hb).2; first | exact h9 | (simp [World.setCell] at h9; exact h9)))
      have oD := hE.own p3 (jBD) (djN _)
      replace jBD := (hdj _ (jBD) (fun b hb => by have h9 := (lD b hb).2; first | exact h9 | (simp [World.setCell] at h9; exact h9)))
      replace KO := hE.blk KO (fun a ha => by have h9 := (lB a ha).1; omega) (fun a ha => by cases ha)
      replace KE := hE.blk KE (fun a ha => by have h9 := (lB a ha).1; omega) (fun a ha => by cases ha)
      replace hb : Below w.heap.size w w4 := hb.trans (hE.below (by omega) (fun a ha => by have h9 := (lB a ha).1; omega) (fun a ha => by cases ha))
      clear lA lB lC lD hE hfr hdj p0 p1 p2 p3 zE
      obtain ⟨e0, e1, e2, e3, f0, f1, f2, f3⟩ := blk4_at KE
      have zE := KE.lt
      replace KO := KO.far (p := ⟨w.heap.size + 1, 1, none⟩) (by simp only; omega) (.slice B' (k + 1) cb')
      replace KE := KE.set_ 1 (.slice B' (k + 1) cb')
      replace hb := hb.setCell (p := ⟨w.heap.size + 1, 1, none⟩) (by simp only; omega) (.slice B' (k + 1) cb')
      replace oA := ownsRow_setCell_below (a := ⟨w.heap.size + 1, 1, none⟩) oA (by simp only; omega) (.slice B' (k + 1) cb')
      replace oB := ownsRow_setCell_below (a := ⟨w.heap.size + 1, 1, none⟩) oB (by simp only; omega) (.slice B' (k + 1) cb')
      replace oC := ownsRow_setCell_below (a := ⟨w.heap.size + 1, 1, none⟩) oC (by simp only; omega) (.slice B' (k + 1) cb')
      replace oD := ownsRow_setCell_below (a := ⟨w.heap.size + 1, 1, none⟩) oD (by simp only; omega) (.slice B' (k + 1) cb')
      simp only [List.setIfInBounds_toArray, List.set_cons_zero, List.set_cons_succ] at KE
      have P := Lib.hid (And.intro KO (And.intro KE (And.intro hb (And.intro oA (And.intro oB (And.intro oC oD))))))
      clear KO KE oA oB oC oD hb
      go_wp2_with (at_builtin; refine app_lies (w4.setCell ⟨w.heap.size + 1, 1, none⟩ (.slice B' (k + 1) cb')) rfl (.tmp 54) (.tmp 56) rfl (w.heap.size + 2) k _ 1 C u2 L2 rfl _ (by simp [World.setCell]) rfl P.out.2.2.2.2.2.1 (by omega) (by have := P.out.2.1.lt; omega) ?_)
      intro C' cc' w5 oC hE hfr hdj
      clear zE e0 e1 e2 e3 f0 f1 f2 f3
      obtain ⟨KO, KE, hb, p0, p1, p2, p3⟩ := P.out
      clear P
      have zE := KE.lt
      have lA := own_blk p0
      have lB := own_blk p1
      have lC := own_blk p2
      have lD := own_blk p3
      have oA := hE.own p0 ((jAC).sym) (djN _)
      replace jAC := (hdj _ ((jAC).sym) (fun b hb => by have h9 := (lA b hb).2; first | exact h9 | (simp [World.setCell] at h9; exact h9))).sym
      have oB := hE.own p1 ((jBC).sym) (djN _)
      replace jBC := (hdj _ ((jBC).sym) (fun b hb => by have h9 := (lB b hb).2; first | exact h9 | (simp [World.setCell] at h9; exact h9))).sym
      have oD := hE.own p3 (jCD) (djN _)
      replace jCD := (hdj _ (jCD) (fun b hb => by have h9 := (lD b hb).2; first | exact h9 | (simp [World.setCell] at h9; exact h9)))
      replace KO := hE.blk KO (fun a ha => by have h9 := (lC a ha).1; omega) (fun a ha => by cases ha)
      replace KE := hE.blk KE (fun a ha => by have h9 := (lC a ha).1; omega) (fun a ha => by cases ha)
      replace hb : Below w.heap.size w w5 := hb.trans (hE.below (by omega) (fun a ha => by have h9 := (lC a ha).1; omega) (fun a ha => by cases ha))
      clear lA lB lC lD hE hfr hdj p0 p1 p2 p3 zE
      obtain ⟨e0, e1, e2, e3, f0, f1, f2, f3⟩ := blk4_at KE
      have zE := KE.lt
      replace KO := KO.far (p := ⟨w.heap.size + 1, 2, none⟩) (by simp only; omega) (.slice C' (k + 1) cc')
      replace KE := KE.set_ 2 (.slice C' (k + 1) cc')
      replace hb := hb.setCell (p := ⟨w.heap.size + 1, 2, none⟩) (by simp only; omega) (.slice C' (k + 1) cc')
      replace oA := ownsRow_setCell_below (a := ⟨w.heap.size + 1, 2, none⟩) oA (by simp only; omega) (.slice C' (k + 1) cc')
      replace oB := ownsRow_setCell_below (a := ⟨w.heap.size + 1, 2, none⟩) oB (by simp only; omega) (.slice C' (k + 1) cc')
      replace oC := ownsRow_setCell_below (a := ⟨w.heap.size + 1, 2, none⟩) oC (by simp only; omega) (.slice C' (k + 1) cc')
      replace oD := ownsRow_setCell_below (a := ⟨w.heap.size + 1, 2, none⟩) oD (by simp only; omega) (.slice C' (k + 1) cc')
      simp only [List.setIfInBounds_toArray, List.set_cons_zero, List.set_cons_succ] at KE
      have P := Lib.hid (And.intro KO (And.intro KE (And.intro hb (And.intro oA (And.intro oB (And.intro oC oD))))))
      clear KO KE oA oB oC oD hb
      go_wp2_with (at_builtin; refine app_lies (w5.setCell ⟨w.heap.size + 1, 2, none⟩ (.slice C' (k + 1) cc')) rfl (.tmp 60) (.tmp 62) rfl (w.heap.size + 2) k _ 1 D u3 L3 rfl _ (by simp [World.setCell]) rfl P.out.2.2.2.2.2.2 (by omega) (by have := P.out.2.1.lt; omega) ?_)
      intro D' cd' w6 oD hE hfr hdj
      clear zE e0 e1 e2 e3 f0 f1 f2 f3
      obtain ⟨KO, KE, hb, p0, p1, p2, p3⟩ := P.out
      clear P
      have zE := KE.lt
      have lA := own_blk p0
      have lB := own_blk p1
      have lC := own_blk p2
      have lD := own_blk p3
      have oA := hE.own p0 ((jAD).sym) (djN _)
      replace jAD := (hdj _ ((jAD).sym) (fun b hb => by have h9 := (lA b hb).2; first | exact h9 | (simp [World.setCell] at h9; exact h9))).sym
      have oB := hE.own p1 ((jBD).sym) (djN _)
      replace jBD := (hdj _ ((jBD).sym) (fun b hb => by have h9 := (lB b hb).2; first | exact h9 | (simp [World.setCell] at h9; exact h9))).sym
      have oC := hE.own p2 ((jCD).sym) (djN _)
      replace jCD := (hdj _ ((jCD).sym) (fun b hb => by have h9 := (lC b hb).2; first | exact h9 | (simp [World.setCell] at h9; exact h9))).sym
      replace KO := hE.blk KO (fun a ha => by have h9 := (lD a ha).1; omega) (fun a ha => by cases ha)
      replace KE := hE.blk KE (fun a ha => by have h9 := (lD a ha).1; omega) (fun a ha => by cases ha)
      replace hb : Below w.heap.size w w6 := hb.trans (hE.below (by omega) (fun a ha => by have h9 := (lD a ha).1; omega) (fun a ha => by cases ha))
      clear lA lB lC lD hE hfr hdj p0 p1 p2 p3 zE
      obtain ⟨e0, e1, e2, e3, f0, f1, f2, f3⟩ := blk4_at KE
      have zE := KE.lt
      replace KO := KO.far (p := ⟨w.heap.size + 1, 3, none⟩) (by simp only; omega) (.slice D' (k + 1) cd')
      replace KE := KE.set_ 3 (.slice D' (k + 1) cd')
      replace hb := hb.setCell (p := ⟨w.heap.size + 1, 3, none⟩) (by simp only; omega) (.slice D' (k + 1) cd')
      replace oA := ownsRow_setCell_below (a := ⟨w.heap.size + 1, 3, none⟩) oA (by simp only; omega) (.slice D' (k + 1) cd')
      replace oB := ownsRow_setCell_below (a := ⟨w.heap.size + 1, 3, none⟩) oB (by simp only; omega) (.slice D' (k + 1) cd')
      replace oC := ownsRow_setCell_below (a := ⟨w.heap.size + 1, 3, none⟩) oC (by simp only; omega) (.slice D' (k + 1) cd')
      replace oD := ownsRow_setCell_below (a := ⟨w.heap.size + 1, 3, none⟩) oD (by simp only; omega) (.slice D' (k + 1) cd')
      simp only [List.setIfInBounds_toArray, List.set_cons_zero, List.set_cons_succ] at KE
      have P := Lib.hid (And.intro KO (And.intro KE (And.intro hb (And.intro oA (And.intro oB (And.intro oC oD))))))
      clear KO KE oA oB oC oD hb
      go_wp2
      obtain ⟨KO, KE, hb, oA, oB, oC, oD⟩ := P.out
      exact ⟨⟨k + 1, ca', cb', cc', cd', A', B', C', D', by omega, by go_num, hb, KO, KE, by show R4 _ _ _ _ _ _ _ _ _ _ _ _ _ _ _; rw [HF.out.1, HF.out.2.1, HF.out.2.2.1, HF.out.2.2.2]; exact ⟨by rw [flat_snoc]; exact oA, by rw [flat_snoc]; exact oB, by rw [flat_snoc]; exact oC, by rw [flat_snoc]; exact oD, jAB, jAC, jAD, jBC, jBD, jCD⟩⟩, by simp [intOf]; omega⟩
    · have hkn : k = N := by omega
      subst hkn
      obtain ⟨e0, e1, e2, e3, _, _, _, _⟩ := blk4_at KE
      obtain ⟨d0, d1, d2, d3, f0, f1, f2, f3⟩ := blk4_at KO
      have zE := KE.lt
      have zO := KO.lt
      obtain ⟨oA, oB, oC, oD, J⟩ := HR4.out
      have P := Lib.hid (And.intro oA (And.intro oB (And.intro oC oD)))
      clear KO KE oA oB oC oD
      go_wp2
      refine bodyPost_ret (v := .agg #[.slice A k ca, .slice B k cb, .slice C k cc, .slice D k cd]) (by simp [results, Try.results81, go_sem, d0, d1, d2, d3]) rfl ⟨A, B, C, D, ca, cb, cc, cd, rfl, ?_, (by repeat (first | exact Below.refl _ _ | assumption | refine Below.drew ?_ | refine below_drewN ?_ _ | refine Below.alloc ?_ (by first | omega | (simp <;> omega)) _ | refine Below.setCell ?_ (by first | omega | (simp <;> omega)) _))⟩
      obtain ⟨oA, oB, oC, oD⟩ := P.out
      refine ⟨?_, ?_, ?_, ?_, J⟩ <;> refine own_mono (base := w.heap.size + 2) ?_ (by omega)
      · exact ownsRow_setCell_below (ownsRow_setCell_below (ownsRow_setCell_below (ownsRow_setCell_below (oA) (by simp only; omega) _) (by simp only; omega) _) (by simp only; omega) _) (by simp only; omega) _
      · exact ownsRow_setCell_below (ownsRow_setCell_below (ownsRow_setCell_below (ownsRow_setCell_below (oB) (by simp only; omega) _) (by simp only; omega) _) (by simp only; omega) _) (by simp only; omega) _
      · exact ownsRow_setCell_below (ownsRow_setCell_below (ownsRow_setCell_below (ownsRow_setCell_below (oC) (by simp only; omega) _) (by simp only; omega) _) (by simp only; omega) _) (by simp only; omega) _
      · exact ownsRow_setCell_below (ownsRow_setCell_below (ownsRow_setCell_below (ownsRow_setCell_below (oD) (by simp only; omega) _) (by simp only; omega) _) (by simp only; omega) _) (by simp only; omega) _
end Go.Proofs.Ytkldejbhhbgefaa
