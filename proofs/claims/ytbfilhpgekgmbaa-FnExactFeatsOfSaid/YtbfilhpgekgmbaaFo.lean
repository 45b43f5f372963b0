/- FeatsOf, both sides. -/
import Derived.Test.YtbfilhpgekgmbaaFp
import Derived.Test.YtbfilhpgekgmbaaBi
import Derived.Test.YtbfilhpgekgmbaaMk
import Derived.Test.YtbfilhpgekgmbaaSu
import Derived.WalkLawsBesides
import Derived.Deep.AppendLies
import Derived.Deep.RegionLaw
import Derived.Deep.RegionHeld3
import Derived.Deep.Cut
import Derived.Deep.CutRange
import Derived.IntWalk
namespace Go.Proofs.Ytbfilhpgekgmbaa
open Go.ChangeShapes Go.WideShapes Go.ChangeAt Go.RowKit
set_option linter.unusedVariables false
set_option linter.unusedSimpArgs false
section
variable {P : Program} (w : World) {ops : Array Oper} {rest : List Oper} {o : Oper} {a : Act} {Q : Exit → Act → World → Prop}
/-- append of many elements (none, too) onto a row of the call's own. -/
theorem app_moreF {α : Type} {f : α → List Value} {S Y : Nat} (hf : ∀ x, (f x).length = S) (hone : ∀ x, ∀ u ∈ f x, u.oneCell' = true) (hg : o.guard = none) (s x : Operand) (t : TypeId)
    (ho : o.op = .call { callee := .builtin .append, args := #[s, x], argTypes := #[t, t] }) (base : Nat) (e : TypeId) (i : TypeInfo) (z : Value)
    (h1 : P.underlying t = some (.slice e)) (hi : P.info? e = some i) (hz : i.zero = some z) (hs : i.size = S) (hy : i.bytes = Y) (hzs : z.cells.size = S) (hS : 0 < S) (hY : Y ≤ 4096)
    (A : Option Addr) (n c : Nat) (l : List α) (hv : a.eval s = .slice A n c) (hown : w.ownsRow base e S (.slice A n c) n (l.flatMap f))
    (b off m c' : Nat) (xs : List α) (hx : a.eval x = .slice (some ⟨b, off, none⟩) m c') (hl : xs.length = m) (hcell : ∀ j u, (xs.flatMap f)[j]? = some u → w.cell? ⟨b, off + j, none⟩ = some u) (N : Nat) (hN : N = n + m) (hn : n + m ≤ 1048576) (hbase : base ≤ w.heap.size)
    (K : ∀ A' c' w', w'.ownsRow base e S (.slice A' N c') N ((l ++ xs).flatMap f) → Below base w w' → wpList P ops Q rest (a.put o.dst (.slice A' N c')) w') :
    wpList P ops Q (o :: rest) a w := by
  subst hN
  have hb : (n + m) * Y ≤ 140737488355328 := Nat.le_trans (Nat.mul_le_mul hn hY) (by decide)
  refine wpList_append_own w hg s x t ho base e i z S Y h1 hi hz hs hy hzs hS (.slice A n c) n (l.flatMap f) hv hown ⟨b, off, none⟩ m c' (xs.flatMap f) hx (by rw [flat_len hf, hl]) ?_ ?_ (by unfold maxLen; omega) hb hbase ?_
  · intro j u hu
    have h := hcell j u hu
    unfold Addr.add
    split
    · rename_i h0; subst h0; exact h
    · exact h
  · intro u hu
    obtain ⟨y, _, hy2⟩ := List.mem_flatMap.1 hu
    exact hone y u hy2
  · intro v' w' hown' hgrow _
    obtain ⟨A', c'', rfl, _, _⟩ := own_form hown'
    refine K A' c'' w' (by rw [List.flatMap_append]; exact hown') ?_
    exact (Below.refl _ _).grown hgrow hbase (fun k hk => (hown.lt k hk).1)
end
section
variable {P : Program} (w : World) {ops : Array Oper} {o : Oper} {a : Act} {Q : Exit → Act → World → Prop} {K : Act → World → Prop} {E : Prop}
theorem step_moreF {α : Type} {f : α → List Value} {S Y : Nat} (hf : ∀ x, (f x).length = S) (hone : ∀ x, ∀ u ∈ f x, u.oneCell' = true) (hgd : o.guard = none) (s x : Operand) (t : TypeId)
    (ho : o.op = .call { callee := .builtin .append, args := #[s, x], argTypes := #[t, t] }) (base : Nat) (e : TypeId) (i : TypeInfo) (z : Value)
    (h1 : P.underlying t = some (.slice e)) (hi : P.info? e = some i) (hz : i.zero = some z) (hs : i.size = S) (hy : i.bytes = Y) (hzs : z.cells.size = S) (hS : 0 < S) (hY : Y ≤ 4096)
    (A : Option Addr) (n c : Nat) (l : List α) (hv : a.eval s = .slice A n c) (hown : w.ownsRow base e S (.slice A n c) n (l.flatMap f))
    (b off m c' : Nat) (xs : List α) (hx : a.eval x = .slice (some ⟨b, off, none⟩) m c') (hl : xs.length = m) (hcell : ∀ j u, (xs.flatMap f)[j]? = some u → w.cell? ⟨b, off + j, none⟩ = some u) (N : Nat) (hN : N = n + m) (hn : n + m ≤ 1048576) (hbase : base ≤ w.heap.size)
    (k : ∀ A' c' w', w'.ownsRow base e S (.slice A' N c') N ((l ++ xs).flatMap f) → Below base w w' → K (a.put o.dst (.slice A' N c')) w') :
    if Region.wanted o (yielded ops a.tmps) = true then Oper.wp P o a w K Q else E := by
  subst hN
  have hw : Region.wanted o (yielded ops a.tmps) = true := by simp [Region.wanted, hgd]
  rw [if_pos hw]
  have hb : (n + m) * Y ≤ 140737488355328 := Nat.le_trans (Nat.mul_le_mul hn hY) (by decide)
  have hnews : ∀ j u, (xs.flatMap f)[j]? = some u → w.cell? ((⟨b, off, none⟩ : Addr).add j) = some u := by
    intro j u hu
    have h := hcell j u hu
    unfold Addr.add
    split
    · rename_i h0; subst h0; exact h
    · exact h
  obtain ⟨v', w', hrun, hown', hgrow, _⟩ := run_append_own (P := P) w base t o.type e i z S Y h1 hi hz hs hy hzs hS (.slice A n c) n (l.flatMap f) hown ⟨b, off, none⟩ m c' (xs.flatMap f) (by rw [flat_len hf, hl]) hnews (by
    intro u hu
    obtain ⟨y, _, hy2⟩ := List.mem_flatMap.1 hu
    exact hone y u hy2) (by unfold maxLen; omega) hb hbase
  unfold Oper.wp execOp
  simp only [ho, resolve, invoke, builtin, Sem.run_bind, Sem.run_pure, Result.andThen_ok, List.map_toArray, List.map_cons, List.map_nil, hv, hx, hrun]
  obtain ⟨A', c'', rfl, _, _⟩ := own_form hown'
  exact k A' c'' w' (by rw [List.flatMap_append]; exact hown') ((Below.refl _ _).grown hgrow hbase (fun k hk => (hown.lt k hk).1))
end
theorem cellsF {w w' : World} {b0 n c : Nat} {ls : List T3} {e base : Nat} (h : w.ownsRow base e 3 (.slice (some ⟨b0, 0, none⟩) n c) n (ls.flatMap c3)) (hb : Below w.heap.size w w') : ∀ j u, (ls.flatMap c3)[j]? = some u → w'.cell? ⟨b0, 0 + j, none⟩ = some u := by
  intro j u hu
  have hlt : j < n * 3 := by have h1 := (List.getElem?_eq_some_iff.1 hu).1; rw [h.1] at h1; exact h1
  rw [Nat.zero_add, (hb.cell (p := ⟨b0, j, none⟩) (h.lt b0 rfl).2), h.cellAt j hlt]; exact hu
theorem spIn_box {p : T2} {b : T4} (h : spIn p b) : inBox p b = true := by
  unfold inBox; rw [Bool.and_eq_true, inB_iff, inB_iff]; exact h
theorem okB_boxF {b : T4} (h : okB b) : boxOk b = true := by
  obtain ⟨a, b, c, d⟩ := b; unfold okB at h; dsimp only at h; rw [boxOk_iff]; omega
theorem Try.infoFeatF : (Try.prog.info? 72).map (fun i => (i.zero, i.size, i.bytes)) = some (some (.agg #[.int .i64 0, .int .i64 0, .int .i64 0]), 3, 24) := by kernel_rfl
theorem Try.underFeats : Try.prog.underlying 37 = some (.slice 72) := by kernel_rfl
set_option maxRecDepth 100000 in
set_option maxHeartbeats 16000000 in
theorem featsOfStroke_any (A : Option Addr) (n c : Nat) (x : List T3) (b1 b2 b3 b4 : Int) (m : Nat) (w : World) (hr : RdL c3 3 w w.heap.size A n c x) (hok : strokeB x = true) (hbo : okB (b1, b2, b3, b4)) (hin : ∀ (j : Nat) (p : T3), x[j]? = some p → inBx p (b1, b2, b3, b4)) (h2 : 2 ≤ m) (h24 : m ≤ 24) :
    Calls Try.prog 47 #[.agg #[.slice A n c], .agg #[.int .i64 b1, .int .i64 b2, .int .i64 b3, .int .i64 b4], .int .i64 (m : Int)] w fun e w' => ∃ A' c', e = .returned (.slice A' m c') ∧
      w'.ownsRow w.heap.size 72 3 (.slice A' m c') m ((fsN (resN x m m) (b1, b2, b3, b4) m).flatMap c3) ∧ Below w.heap.size w w' := by
  obtain ⟨i0, hi, hz0, hz1, hz2⟩ := info_parts Try.infoFeatF
  have HIN := Lib.hid (fun (k : Nat) (q : T2) (hq : (resN x m m)[k]? = some q) => resN_in hok hin h2 hq)
  have hbx := okB_boxF hbo
  have Hok := Lib.hid hok
  unfold okB at hbo
  dsimp only at hbo
  clear hok hin
  go_enter Try.func47, Try.ntmps47
  go_wp2_with fail
  have K0 : Blk ((w.alloc (.cells #[.slice A n c] 52)).alloc (.cells #[.int .i64 b1, .int .i64 b2, .int .i64 b3, .int .i64 b4] 64)) (w.heap.size) 52 #[.slice A n c] := by have hk := (Blk.new w 52 #[.slice A n c]).alloc (.cells #[.int .i64 b1, .int .i64 b2, .int .i64 b3, .int .i64 b4] 64); simpa using hk
  have J0 : Blk ((w.alloc (.cells #[.slice A n c] 52)).alloc (.cells #[.int .i64 b1, .int .i64 b2, .int .i64 b3, .int .i64 b4] 64)) (w.heap.size + 1) 64 #[.int .i64 b1, .int .i64 b2, .int .i64 b3, .int .i64 b4] := by have hk := Blk.new (w.alloc (.cells #[.slice A n c] 52)) 64 #[.int .i64 b1, .int .i64 b2, .int .i64 b3, .int .i64 b4]; simpa using hk
  have hbv : Below w.heap.size w ((w.alloc (.cells #[.slice A n c] 52)).alloc (.cells #[.int .i64 b1, .int .i64 b2, .int .i64 b3, .int .i64 b4] 64)) := (by repeat (first | exact Below.refl _ _ | assumption | refine Below.drew ?_ | refine below_drewN ?_ _ | refine Below.alloc ?_ (by first | omega | (simp <;> omega)) _ | refine Below.setCell ?_ (by first | omega | (simp <;> omega)) _))
  replace hr := hr.on hbv
  generalize ((w.alloc (.cells #[.slice A n c] 52)).alloc (.cells #[.int .i64 b1, .int .i64 b2, .int .i64 b3, .int .i64 b4] 64)) = v at *
  have hB := hbv
  have e0 := K0.cell 0
  simp only [List.getElem?_toArray, List.getElem?_cons_zero] at e0
  go_wp2_with fail
  with_reducible refine (resample_any _ _ _ x m _ hr Hok.out h2 h24).mono ?_
  rintro e w1 ⟨A1, q1, rfl, o1, hb1⟩
  have hsl : Hid ((resN x m m).length = m) := resN_len _ _ _
  have HR := Lib.hid (RdL.of_own hsl.out o1)
  have J1 := J0.on hb1
  replace hB := below_on hb1 hB
  have hcap : m ≤ 9223372036854775807 := by omega
  clear e0 K0 J0 hb1 hbv hr o1
  go_wp2_with fail
  go_loopw [8, 9, 18] (fun q d i wr => ∃ (k c' : Nat) (A' : Option Addr), k ≤ m ∧ i = .int .i64 k ∧ q = .slice A' k c' ∧ d = .int .i64 (dirS (resN x m m) k) ∧ Below w1.heap.size w1 wr ∧ Hid (wr.ownsRow w1.heap.size 72 3 (.slice A' k c') k ((fsN (resN x m m) (b1, b2, b3, b4) k).flatMap c3))) (fun _ _ i _ => m - (intOf i).toNat)
  case atStart => exact ⟨0, 0, none, by omega, rfl, rfl, rfl, Below.refl _ _, World.ownsRow_nil _ _ _ _⟩
  case round =>
    obtain ⟨k, c', A', hk, rfl, rfl, rfl, hb, HW⟩ := hrel
    have hsz := hb.size
    by_cases hlt : k < m
    · obtain ⟨b, off, px, py, rfl, hbl, hp, u0, u1⟩ := (HR.out.on hb).at2 hlt
      obtain ⟨⟨s0, s1⟩, s2, s3⟩ := HIN.out k _ hp.out
      have hib := spIn_box (HIN.out k _ hp.out)
      have HIB := Lib.hid hib
      simp only at s0 s1 s2 s3
      have i1 : (k : Int) < (m : Int) := by omega
      have i2 : (0 : Int) ≤ (k : Int) := by omega
      have i3 : IntKind.i64.wrap ((k : Int) + 1) = (k : Int) + 1 := IntWalk.i64_in _ (by omega)
      obtain ⟨dk, hdk⟩ : ∃ d, dirS (resN x m m) k = d := ⟨_, rfl⟩
      have HDK := Lib.hid hdk
      obtain ⟨⟨nx, ny⟩, hN⟩ : ∃ q, nrmB (px, py) (b1, b2, b3, b4) = q := ⟨_, rfl⟩
      have HNP := Lib.hid hN
      rw [hdk]
      clear hdk hN hib
      by_cases hk1 : k + 1 < m
      · obtain ⟨b', off', qx, qy, he, _, hq, v0, v1⟩ := (HR.out.on hb).at2 hk1
        cases he
        obtain ⟨⟨t0, t1⟩, t2, t3⟩ := HIN.out (k + 1) _ hq.out
        simp only at t0 t1 t2 t3
        have j1 : (k : Int) + 1 < (m : Int) := by omega
        have jd : decide ((k : Int) + 1 < (m : Int)) = true := decide_eq_true j1
        have j2 : (0 : Int) ≤ (k : Int) + 1 := by omega
        have j3 : ((k : Int) + 1).toNat = k + 1 := by omega
        by_cases hqp : px = qx ∧ py = qy
        · obtain ⟨rfl, rfl⟩ := hqp
          have HD : Hid (dirS (resN x m m) (k + 1) = dk) := (dirS_same hp.out hq.out rfl).trans HDK.out
          have Jw := (J1.on hb)
          go_wp2_with fail
          have P0 := Blk.new (wr) 96 #[.int .i64 px, .int .i64 py]
          have hbwa : Below (wr).heap.size (wr) ((wr).alloc (.cells #[.int .i64 px, .int .i64 py] 96)) := (Below.refl _ _).alloc (Nat.le_refl _) _
          generalize (wr).alloc (.cells #[.int .i64 px, .int .i64 py] 96) = wa at *
          have Jwa := Jw.on hbwa
          have p0 := P0.cell 0
          have p1 := P0.cell 1
          simp only [List.getElem?_toArray, List.getElem?_cons_succ, List.getElem?_cons_zero] at p0 p1
          have j0 := Jwa.cell 0
          have j1 := Jwa.cell 1
          have j2 := Jwa.cell 2
          have j3 := Jwa.cell 3
          simp only [List.getElem?_toArray, List.getElem?_cons_succ, List.getElem?_cons_zero] at j0 j1 j2 j3
          have zj := Jwa.lt
          have zp := P0.lt
          replace v0 := cell_on2 hbwa v0
          replace v1 := cell_on2 hbwa v1
          go_quiet (fail)
          go_wp2_with fail
          with_reducible refine (normalSpot_any px py b1 b2 b3 b4 _ hbx HIB.out).mono ?_
          rw [HNP.out]
          rintro e w3 ⟨rfl, hb3⟩
          have hb39 : Below wa.heap.size wa w3 := below_app (by first | exact below_drewN (Below.refl _ _) _ | exact below_drewN (below_drewN (Below.refl _ _) _) _) hb3 (Nat.le_refl _)
          have HW3 := Lib.hid (own_below (own_below HW.out hbwa) hb39)
          have hba3 := below_app (below_app hb hbwa hsz) hb39 (by have := hbwa.size; omega)
          have hs3 := hba3.size
          clear hb3 hb39 p0 p1 j0 j1 j2 j3 HW
          try clear u0
          try clear u1
          go_wp2_with (at_builtin; with_reducible refine app_one _ c3_len one3 rfl (.tmp 59) (.tmp 66) 37 rfl w1.heap.size 72 i0 _ Try.underFeats hi hz0 hz1 hz2 rfl (by decide) (by decide) A' k c' (fsN (resN x m m) (b1, b2, b3, b4) k) rfl ((HW3.out.alloc _).alloc _) (w3.heap.size + 1) 1 (nx, ny, dk) rfl ?_ ?_ ?_ ?_)
          all_goals first | omega | (intro A2 c2 w5 (hw5 : (World.ownsRow _ _ _ _ _ _ _)) hb5) | (intro j u hu; have h8 := news3 (Cell3.new (w3.alloc (.cells #[.int .i64 nx, .int .i64 ny] 96)) nx ny dk 72) j u (by simpa using hu); simpa using h8) | (simp; omega)
          have hb6 : Below w1.heap.size w1 w5 := ((hba3.alloc (by omega) _).alloc (by simp; omega) _).trans hb5
          have O5 := Lib.hid hw5
          clear hw5 hb5
          go_wp2
          exact ⟨⟨k + 1, c2, A2, by omega, by go_num, rfl, by rw [HD.out], hb6, by show World.ownsRow _ _ _ _ _ _ _; rw [fsN_step, fsQ_of hp.out HD.out, HNP.out]; rw [List.flatMap_append]; exact (by simpa using O5.out)⟩, by simp [intOf]; omega⟩
        · have HD : Hid (dirS (resN x m m) (k + 1) = dirV (qx - px) (qy - py)) := dirS_new hp.out hq.out (fun h9 => hqp (by cases h9; exact ⟨rfl, rfl⟩))
          have o2 : IntKind.i64.wrap (qy - py) = qy - py := IntWalk.i64_in _ (by omega)
          by_cases hx : px = qx
          · have hy : ¬ qy = py := fun h9 => hqp ⟨hx, h9.symm⟩
            have hyd : (qy == py) = false := by simpa using hy
            have hyd2 : decide (qy = py) = false := decide_eq_false hy
            subst hx
            rw [Int.sub_self] at HD
            have Z1 := Lib.hid (fun W => directionOf_any 0 (qy - py) W (by omega) (by omega) (by omega) (by omega))
            generalize dirV 0 (qy - py) = dv at *
            have Jw := (J1.on hb)
            go_wp2_with fail
            have P0 := Blk.new (wr) 96 #[.int .i64 px, .int .i64 py]
            have hbwa : Below (wr).heap.size (wr) ((wr).alloc (.cells #[.int .i64 px, .int .i64 py] 96)) := (Below.refl _ _).alloc (Nat.le_refl _) _
            generalize (wr).alloc (.cells #[.int .i64 px, .int .i64 py] 96) = wa at *
            have Jwa := Jw.on hbwa
            have p0 := P0.cell 0
            have p1 := P0.cell 1
            simp only [List.getElem?_toArray, List.getElem?_cons_succ, List.getElem?_cons_zero] at p0 p1
            have j0 := Jwa.cell 0
            have j1 := Jwa.cell 1
            have j2 := Jwa.cell 2
            have j3 := Jwa.cell 3
            simp only [List.getElem?_toArray, List.getElem?_cons_succ, List.getElem?_cons_zero] at j0 j1 j2 j3
            have zj := Jwa.lt
            have zp := P0.lt
            replace v0 := cell_on2 hbwa v0
            replace v1 := cell_on2 hbwa v1
            go_quiet (fail)
            go_wp2_with fail
            go_quiet ((go_at_call 73; first | (with_reducible exact quiet_left (Z1.out _)) | (with_reducible exact quiet_add_left (Z1.out _))))
            go_wp2_with fail
            with_reducible refine (normalSpot_any px py b1 b2 b3 b4 _ hbx HIB.out).mono ?_
            rw [HNP.out]
            rintro e w3 ⟨rfl, hb3⟩
            have hb39 : Below wa.heap.size wa w3 := below_app (by first | exact below_drewN (Below.refl _ _) _ | exact below_drewN (below_drewN (Below.refl _ _) _) _) hb3 (Nat.le_refl _)
            have HW3 := Lib.hid (own_below (own_below HW.out hbwa) hb39)
            have hba3 := below_app (below_app hb hbwa hsz) hb39 (by have := hbwa.size; omega)
            have hs3 := hba3.size
            clear hb3 hb39 p0 p1 j0 j1 j2 j3 HW
            try clear u0
            try clear u1
            go_wp2_with (at_builtin; with_reducible refine app_one _ c3_len one3 rfl (.tmp 59) (.tmp 66) 37 rfl w1.heap.size 72 i0 _ Try.underFeats hi hz0 hz1 hz2 rfl (by decide) (by decide) A' k c' (fsN (resN x m m) (b1, b2, b3, b4) k) rfl ((HW3.out.alloc _).alloc _) (w3.heap.size + 1) 1 (nx, ny, dv) rfl ?_ ?_ ?_ ?_)
            all_goals first | omega | (intro A2 c2 w5 (hw5 : (World.ownsRow _ _ _ _ _ _ _)) hb5) | (intro j u hu; have h8 := news3 (Cell3.new (w3.alloc (.cells #[.int .i64 nx, .int .i64 ny] 96)) nx ny dv 72) j u (by simpa using hu); simpa using h8) | (simp; omega)
            have hb6 : Below w1.heap.size w1 w5 := ((hba3.alloc (by omega) _).alloc (by simp; omega) _).trans hb5
            have O5 := Lib.hid hw5
            clear hw5 hb5
            go_wp2
            exact ⟨⟨k + 1, c2, A2, by omega, by go_num, rfl, by rw [HD.out], hb6, by show World.ownsRow _ _ _ _ _ _ _; rw [fsN_step, fsQ_of hp.out HD.out, HNP.out]; rw [List.flatMap_append]; exact (by simpa using O5.out)⟩, by simp [intOf]; omega⟩
          · have hx2 : ¬ qx = px := fun h9 => hx h9.symm
            have hxd : (qx == px) = false := by simpa using hx2
            have hxd2 : decide (qx = px) = false := decide_eq_false hx2
            have o1 : IntKind.i64.wrap (qx - px) = qx - px := IntWalk.i64_in _ (by omega)
            have Z1 := Lib.hid (fun W => directionOf_any (qx - px) (qy - py) W (by omega) (by omega) (by omega) (by omega))
            generalize dirV (qx - px) (qy - py) = dv at *
            have Jw := (J1.on hb)
            go_wp2_with fail
            have P0 := Blk.new (wr) 96 #[.int .i64 px, .int .i64 py]
            have hbwa : Below (wr).heap.size (wr) ((wr).alloc (.cells #[.int .i64 px, .int .i64 py] 96)) := (Below.refl _ _).alloc (Nat.le_refl _) _
            generalize (wr).alloc (.cells #[.int .i64 px, .int .i64 py] 96) = wa at *
            have Jwa := Jw.on hbwa
            have p0 := P0.cell 0
            have p1 := P0.cell 1
            simp only [List.getElem?_toArray, List.getElem?_cons_succ, List.getElem?_cons_zero] at p0 p1
            have j0 := Jwa.cell 0
            have j1 := Jwa.cell 1
            have j2 := Jwa.cell 2
            have j3 := Jwa.cell 3
            simp only [List.getElem?_toArray, List.getElem?_cons_succ, List.getElem?_cons_zero] at j0 j1 j2 j3
            have zj := Jwa.lt
            have zp := P0.lt
            replace v0 := cell_on2 hbwa v0
            replace v1 := cell_on2 hbwa v1
            go_quiet (fail)
            go_wp2_with fail
            go_quiet ((go_at_call 73; first | (with_reducible exact quiet_left (Z1.out _)) | (with_reducible exact quiet_add_left (Z1.out _))))
            go_wp2_with fail
            with_reducible refine (normalSpot_any px py b1 b2 b3 b4 _ hbx HIB.out).mono ?_
            rw [HNP.out]
            rintro e w3 ⟨rfl, hb3⟩
            have hb39 : Below wa.heap.size wa w3 := below_app (by first | exact below_drewN (Below.refl _ _) _ | exact below_drewN (below_drewN (Below.refl _ _) _) _) hb3 (Nat.le_refl _)
            have HW3 := Lib.hid (own_below (own_below HW.out hbwa) hb39)
            have hba3 := below_app (below_app hb hbwa hsz) hb39 (by have := hbwa.size; omega)
            have hs3 := hba3.size
            clear hb3 hb39 p0 p1 j0 j1 j2 j3 HW
            try clear u0
            try clear u1
            go_wp2_with (at_builtin; with_reducible refine app_one _ c3_len one3 rfl (.tmp 59) (.tmp 66) 37 rfl w1.heap.size 72 i0 _ Try.underFeats hi hz0 hz1 hz2 rfl (by decide) (by decide) A' k c' (fsN (resN x m m) (b1, b2, b3, b4) k) rfl ((HW3.out.alloc _).alloc _) (w3.heap.size + 1) 1 (nx, ny, dv) rfl ?_ ?_ ?_ ?_)
            all_goals first | omega | (intro A2 c2 w5 (hw5 : (World.ownsRow _ _ _ _ _ _ _)) hb5) | (intro j u hu; have h8 := news3 (Cell3.new (w3.alloc (.cells #[.int .i64 nx, .int .i64 ny] 96)) nx ny dv 72) j u (by simpa using hu); simpa using h8) | (simp; omega)
            have hb6 : Below w1.heap.size w1 w5 := ((hba3.alloc (by omega) _).alloc (by simp; omega) _).trans hb5
            have O5 := Lib.hid hw5
            clear hw5 hb5
            go_wp2
            exact ⟨⟨k + 1, c2, A2, by omega, by go_num, rfl, by rw [HD.out], hb6, by show World.ownsRow _ _ _ _ _ _ _; rw [fsN_step, fsQ_of hp.out HD.out, HNP.out]; rw [List.flatMap_append]; exact (by simpa using O5.out)⟩, by simp [intOf]; omega⟩
      · have j1 : ¬ (k : Int) + 1 < (m : Int) := by omega
        have jd : decide ((k : Int) + 1 < (m : Int)) = false := decide_eq_false j1
        have HD : Hid (dirS (resN x m m) (k + 1) = dk) := (dirS_last (by rw [hsl.out]; omega)).trans HDK.out
        have Jw := (J1.on hb)
        go_wp2_with fail
        have P0 := Blk.new (wr) 96 #[.int .i64 px, .int .i64 py]
        have hbwa : Below (wr).heap.size (wr) ((wr).alloc (.cells #[.int .i64 px, .int .i64 py] 96)) := (Below.refl _ _).alloc (Nat.le_refl _) _
        generalize (wr).alloc (.cells #[.int .i64 px, .int .i64 py] 96) = wa at *
        have Jwa := Jw.on hbwa
        have p0 := P0.cell 0
        have p1 := P0.cell 1
        simp only [List.getElem?_toArray, List.getElem?_cons_succ, List.getElem?_cons_zero] at p0 p1
        have j0 := Jwa.cell 0
        have j1 := Jwa.cell 1
        have j2 := Jwa.cell 2
        have j3 := Jwa.cell 3
        simp only [List.getElem?_toArray, List.getElem?_cons_succ, List.getElem?_cons_zero] at j0 j1 j2 j3
        have zj := Jwa.lt
        have zp := P0.lt
        go_quiet (fail)
        go_wp2_with fail
        with_reducible refine (normalSpot_any px py b1 b2 b3 b4 _ hbx HIB.out).mono ?_
        rw [HNP.out]
        rintro e w3 ⟨rfl, hb3⟩
        have hb39 : Below wa.heap.size wa w3 := below_app (by first | exact below_drewN (Below.refl _ _) _ | exact below_drewN (below_drewN (Below.refl _ _) _) _) hb3 (Nat.le_refl _)
        have HW3 := Lib.hid (own_below (own_below HW.out hbwa) hb39)
        have hba3 := below_app (below_app hb hbwa hsz) hb39 (by have := hbwa.size; omega)
        have hs3 := hba3.size
        clear hb3 hb39 p0 p1 j0 j1 j2 j3 HW
        try clear u0
        try clear u1
        go_wp2_with (at_builtin; with_reducible refine app_one _ c3_len one3 rfl (.tmp 59) (.tmp 66) 37 rfl w1.heap.size 72 i0 _ Try.underFeats hi hz0 hz1 hz2 rfl (by decide) (by decide) A' k c' (fsN (resN x m m) (b1, b2, b3, b4) k) rfl ((HW3.out.alloc _).alloc _) (w3.heap.size + 1) 1 (nx, ny, dk) rfl ?_ ?_ ?_ ?_)
        all_goals first | omega | (intro A2 c2 w5 (hw5 : (World.ownsRow _ _ _ _ _ _ _)) hb5) | (intro j u hu; have h8 := news3 (Cell3.new (w3.alloc (.cells #[.int .i64 nx, .int .i64 ny] 96)) nx ny dk 72) j u (by simpa using hu); simpa using h8) | (simp; omega)
        have hb6 : Below w1.heap.size w1 w5 := ((hba3.alloc (by omega) _).alloc (by simp; omega) _).trans hb5
        have O5 := Lib.hid hw5
        clear hw5 hb5
        go_wp2
        exact ⟨⟨k + 1, c2, A2, by omega, by go_num, rfl, by rw [HD.out], hb6, by show World.ownsRow _ _ _ _ _ _ _; rw [fsN_step, fsQ_of hp.out HD.out, HNP.out]; rw [List.flatMap_append]; exact (by simpa using O5.out)⟩, by simp [intOf]; omega⟩
    · have hkm : k = m := by omega
      subst hkm
      go_wp2
      go_ret
      exact ⟨A', c', rfl, own_mono HW.out hB.size, below_app hB hb hB.size⟩
set_option maxRecDepth 100000 in
set_option maxHeartbeats 16000000 in
theorem l08Stroke_ptr (A : Option Addr) (n c : Nat) (x : List T3) (b1 b2 b3 b4 : Int) (m : Nat) (w : World) (g0 oo : Nat) (K0 : Cel w g0 oo (.slice A n c)) (hr : RdL c3 3 w w.heap.size A n c x) (hok : strokeB x = true) (hbo : okB (b1, b2, b3, b4)) (hin : ∀ (j : Nat) (p : T3), x[j]? = some p → inBx p (b1, b2, b3, b4)) (h2 : 2 ≤ m) (h24 : m ≤ 24) :
    Calls Try.prog 71 #[.pointer (some ⟨g0, oo, none⟩), .int .i64 (m : Int), .agg #[.int .i64 b1, .int .i64 b2, .int .i64 b3, .int .i64 b4]] w fun e w' => ∃ A' c', e = .returned (.slice A' m c') ∧
      w'.ownsRow w.heap.size 72 3 (.slice A' m c') m ((fsN (resN x m m) (b1, b2, b3, b4) m).flatMap c3) ∧ Below w.heap.size w w' := by
  obtain ⟨i0, hi, hz0, hz1, hz2⟩ := info_parts Try.infoFeatF
  have HIN := Lib.hid (fun (k : Nat) (q : T2) (hq : (resN x m m)[k]? = some q) => resN_in hok hin h2 hq)
  have hbx := okB_boxF hbo
  have Hok := Lib.hid hok
  unfold okB at hbo
  dsimp only at hbo
  clear hok hin
  go_enter Try.func71, Try.ntmps71
  go_wp2_with fail
  have J0 := Blk.new (w) 64 #[.int .i64 b1, .int .i64 b2, .int .i64 b3, .int .i64 b4]
  have hbv : Below (w).heap.size (w) ((w).alloc (.cells #[.int .i64 b1, .int .i64 b2, .int .i64 b3, .int .i64 b4] 64)) := (Below.refl _ _).alloc (Nat.le_refl _) _
  replace hr := hr.on hbv
  replace K0 := K0.on hbv
  generalize (w).alloc (.cells #[.int .i64 b1, .int .i64 b2, .int .i64 b3, .int .i64 b4] 64) = v at *
  have hB := hbv
  with_reducible refine (l06Resample_ptr _ _ _ x m _ _ _ K0 hr Hok.out h2 h24).mono ?_
  rintro e w0 ⟨A1, q1, rfl, o1, hb1⟩
  have hsl : Hid ((resN x m m).length = m) := resN_len _ _ _
  have HR := Lib.hid (RdL.of_own hsl.out o1)
  have J1 := J0.on hb1
  replace hB := below_on hb1 hB
  have hcap : m ≤ 9223372036854775807 := by omega
  clear K0 J0 hb1 hbv hr o1
  go_wp2_with fail
  have hlit : (w0.alloc (.cells #[] 72)).ownsRow w0.heap.size 72 3 (.slice (some ⟨w0.heap.size, 0, none⟩) 0 0) 0 (([] : List T3).flatMap c3) := by simpa using World.ownsRow_lit (base := w0.heap.size) (e := 72) (size := 3) w0 #[] 0 (Nat.le_refl _) (by simp [maxLen]) rfl
  have HL := Lib.hid hlit
  clear hlit
  obtain ⟨w1, rfl⟩ : ∃ W, W = w0 := ⟨_, rfl⟩
  go_loopw [8, 9, 10] (fun q d i wr => ∃ (k c' : Nat) (A' : Option Addr), k ≤ m ∧ i = .int .i64 k ∧ q = .slice A' k c' ∧ d = .int .i64 (dirS (resN x m m) k) ∧ Below w1.heap.size w1 wr ∧ Hid (wr.ownsRow w1.heap.size 72 3 (.slice A' k c') k ((fsN (resN x m m) (b1, b2, b3, b4) k).flatMap c3))) (fun _ _ i _ => m - (intOf i).toNat)
  case atStart => exact ⟨0, 0, _, by omega, rfl, rfl, rfl, (Below.refl _ _).alloc (Nat.le_refl _) _, HL.out⟩
  case round =>
    obtain ⟨k, c', A', hk, rfl, rfl, rfl, hb, HW⟩ := hrel
    have hsz := hb.size
    by_cases hlt : k < m
    · obtain ⟨b, off, px, py, rfl, hbl, hp, u0, u1⟩ := (HR.out.on hb).at2 hlt
      obtain ⟨⟨s0, s1⟩, s2, s3⟩ := HIN.out k _ hp.out
      have HIB := Lib.hid (spIn_box (HIN.out k _ hp.out))
      simp only at s0 s1 s2 s3
      have i1 : (k : Int) < (m : Int) := by omega
      have i2 : (0 : Int) ≤ (k : Int) := by omega
      have i3 : IntKind.i64.wrap ((k : Int) + 1) = (k : Int) + 1 := IntWalk.i64_in _ (by omega)
      obtain ⟨dk, hdk⟩ : ∃ d, dirS (resN x m m) k = d := ⟨_, rfl⟩
      have HDK := Lib.hid hdk
      obtain ⟨⟨nx, ny⟩, hN⟩ : ∃ q, nrmB (px, py) (b1, b2, b3, b4) = q := ⟨_, rfl⟩
      have HNP := Lib.hid hN
      rw [hdk]
      clear hdk hN
      by_cases hk1 : k + 1 < m
      · obtain ⟨b', off', qx, qy, he, _, hq, v0, v1⟩ := (HR.out.on hb).at2 hk1
        cases he
        obtain ⟨⟨t0, t1⟩, t2, t3⟩ := HIN.out (k + 1) _ hq.out
        simp only at t0 t1 t2 t3
        have j1 : (k : Int) + 1 < (m : Int) := by omega
        have j2 : (0 : Int) ≤ (k : Int) + 1 := by omega
        have j3 : ((k : Int) + 1).toNat = k + 1 := by omega
        have jd : decide ((k : Int) + 1 < (m : Int)) = true := decide_eq_true j1
        by_cases hqp : px = qx ∧ py = qy
        · obtain ⟨rfl, rfl⟩ := hqp
          have HD : Hid (dirS (resN x m m) (k + 1) = dk) := (dirS_same hp.out hq.out rfl).trans HDK.out
          go_wp2_with fail
          go_quiet (fail)
          obtain ⟨nq1, rfl⟩ : ∃ q, q = nq := ⟨_, rfl⟩
          go_wp2_with fail
          go_quiet (fail)
          have hbr : Below wr.heap.size wr ((wr.drewN nq1).drewN nq) := below_drewN (below_drewN (Below.refl _ _) _) _
          have hbq : Below w1.heap.size w1 ((wr.drewN nq1).drewN nq) := below_drewN (below_drewN hb _) _
          generalize (wr.drewN nq1).drewN nq = wq at *
          have Jw := (J1.on hbq)
          have zj := Jw.lt
          have hsq := hbq.size
          have HWq := Lib.hid (own_below HW.out hbr)
          have j0 := Jw.cell 0
          have j1 := Jw.cell 1
          have j2 := Jw.cell 2
          have j3 := Jw.cell 3
          simp only [List.getElem?_toArray, List.getElem?_cons_succ, List.getElem?_cons_zero] at j0 j1 j2 j3
          replace u0 := (hbr.cell (p := ⟨b, off + k * 2, none⟩) hbl).trans u0
          replace u1 := (hbr.cell (p := ⟨b, off + k * 2 + 1, none⟩) hbl).trans u1
          replace hbl : b < wq.heap.size := by have := hbr.size; omega
          clear hbr HW
          go_wp2_with fail
          go_cut [13] from 62 to 67 (fun pp w' => ∃ g9 : Nat, pp = .pointer (some ⟨g9, 0, none⟩) ∧ Below wq.heap.size wq w' ∧ Blk w' g9 96 #[.int .i64 nx, .int .i64 ny])
          case first =>
            go_region_law (first | (go_simp; go_at_call 85; with_reducible refine (l07Normal_any px py b1 b2 b3 b4 _ hbx HIB.out).mono ?_; rw [HNP.out]; rintro e w3 ⟨rfl, hb3⟩; have hb39 : Below wq.heap.size wq w3 := (by first | exact below_app ((Below.refl _ _).drew) hb3 (Nat.le_refl _) | exact below_app (((Below.refl _ _).alloc (Nat.le_refl _) _).drew) hb3 (by simp)); (first | (have J9 := ((Blk.new wq 96 #[.int .i64 0, .int .i64 0]).drew).on hb3; obtain ⟨m0, m1, g0, g1, zm⟩ := J9.two) | skip)))
            all_goals
              go_wp2
              go_meet
              first
                | exact ⟨w3.heap.size, rfl, hb39.alloc hb39.size _, Blk.new _ _ _⟩
                | exact ⟨_, rfl, (hb39.setCell (by simp) _).setCell (by simp) _, (J9.set_ 0 _).set_ 1 _⟩
          case rest =>
            obtain ⟨g9, rfl, hbc, JP⟩ := hcut
            rename World => w4
            have hb4 := below_app hbq hbc (by omega)
            have HW4 := Lib.hid (own_below HWq.out hbc)
            have hs4 := hb4.size
            obtain ⟨m0, m1, _, _, zm⟩ := JP.two
            clear j0 j1 j2 j3 u0 u1
            go_wp2_with (at_builtin; with_reducible refine app_one _ c3_len one3 rfl (.tmp 68) (.tmp 75) 37 rfl w1.heap.size 72 i0 _ Try.underFeats hi hz0 hz1 hz2 rfl (by decide) (by decide) A' k c' (fsN (resN x m m) (b1, b2, b3, b4) k) rfl (HW4.out.alloc _) w4.heap.size 1 (nx, ny, dk) rfl ?_ ?_ ?_ ?_)
            all_goals first | omega | (intro A2 c2 w5 (hw5 : (World.ownsRow _ _ _ _ _ _ _)) hb5) | (intro j u hu; have h8 := news3 (Cell3.new w4 nx ny dk 72) j u (by simpa using hu); simpa using h8) | (simp; omega)
            have hb6 : Below w1.heap.size w1 w5 := (hb4.alloc (by omega) _).trans hb5
            have O5 := Lib.hid hw5
            clear hw5 hb5
            go_wp2
            exact ⟨⟨k + 1, c2, A2, by omega, by go_num, rfl, by rw [HD.out], hb6, by show World.ownsRow _ _ _ _ _ _ _; rw [fsN_step, fsQ_of hp.out HD.out, HNP.out]; rw [List.flatMap_append]; exact (by simpa using O5.out)⟩, by simp [intOf]; omega⟩
        · have HD : Hid (dirS (resN x m m) (k + 1) = dirV (qx - px) (qy - py)) := dirS_new hp.out hq.out (fun h9 => hqp (by cases h9; exact ⟨rfl, rfl⟩))
          have o2 : IntKind.i64.wrap (qy - py) = qy - py := IntWalk.i64_in _ (by omega)
          by_cases hx : px = qx
          · have hy : ¬ qy - py = 0 := fun h9 => hqp ⟨hx, by omega⟩
            have hyd : (qy - py == 0) = false := by simpa using hy
            have hyd2 : decide (qy - py = 0) = false := decide_eq_false hy
            subst hx
            rw [Int.sub_self] at HD
            have Z1 := Lib.hid (fun W => l05Sector_any 0 (qy - py) W (by omega) (by omega) (by omega) (by omega))
            obtain ⟨dv, hdv⟩ : ∃ d, dirV 0 (qy - py) = d := ⟨_, rfl⟩
            simp only [hdv] at HD Z1
            clear hdv
            go_wp2_with fail
            go_quiet (fail)
            obtain ⟨nq1, rfl⟩ : ∃ q, q = nq := ⟨_, rfl⟩
            go_wp2_with fail
            go_quiet (fail)
            have hbr : Below wr.heap.size wr ((wr.drewN nq1).drewN nq) := below_drewN (below_drewN (Below.refl _ _) _) _
            have hbq : Below w1.heap.size w1 ((wr.drewN nq1).drewN nq) := below_drewN (below_drewN hb _) _
            generalize (wr.drewN nq1).drewN nq = wq at *
            have Jw := (J1.on hbq)
            have zj := Jw.lt
            have hsq := hbq.size
            have HWq := Lib.hid (own_below HW.out hbr)
            have j0 := Jw.cell 0
            have j1 := Jw.cell 1
            have j2 := Jw.cell 2
            have j3 := Jw.cell 3
            simp only [List.getElem?_toArray, List.getElem?_cons_succ, List.getElem?_cons_zero] at j0 j1 j2 j3
            replace u0 := (hbr.cell (p := ⟨b, off + k * 2, none⟩) hbl).trans u0
            replace u1 := (hbr.cell (p := ⟨b, off + k * 2 + 1, none⟩) hbl).trans u1
            replace hbl : b < wq.heap.size := by have := hbr.size; omega
            clear hbr HW
            go_wp2_with (first | (go_at_call 84; with_reducible refine (Z1.out _).mono ?_; rintro e w7 ⟨rfl, rfl⟩))
            go_cut [13] from 62 to 67 (fun pp w' => ∃ g9 : Nat, pp = .pointer (some ⟨g9, 0, none⟩) ∧ Below wq.heap.size wq w' ∧ Blk w' g9 96 #[.int .i64 nx, .int .i64 ny])
            case first =>
              go_region_law (first | (go_simp; go_at_call 85; with_reducible refine (l07Normal_any px py b1 b2 b3 b4 _ hbx HIB.out).mono ?_; rw [HNP.out]; rintro e w3 ⟨rfl, hb3⟩; have hb39 : Below wq.heap.size wq w3 := (by first | exact below_app ((Below.refl _ _).drew) hb3 (Nat.le_refl _) | exact below_app (((Below.refl _ _).alloc (Nat.le_refl _) _).drew) hb3 (by simp)); (first | (have J9 := ((Blk.new wq 96 #[.int .i64 0, .int .i64 0]).drew).on hb3; obtain ⟨m0, m1, g0, g1, zm⟩ := J9.two) | skip)))
              all_goals
                go_wp2
                go_meet
                first
                  | exact ⟨w3.heap.size, rfl, hb39.alloc hb39.size _, Blk.new _ _ _⟩
                  | exact ⟨_, rfl, (hb39.setCell (by simp) _).setCell (by simp) _, (J9.set_ 0 _).set_ 1 _⟩
            case rest =>
              obtain ⟨g9, rfl, hbc, JP⟩ := hcut
              rename World => w4
              have hb4 := below_app hbq hbc (by omega)
              have HW4 := Lib.hid (own_below HWq.out hbc)
              have hs4 := hb4.size
              obtain ⟨m0, m1, _, _, zm⟩ := JP.two
              clear j0 j1 j2 j3 u0 u1
              go_wp2_with (at_builtin; with_reducible refine app_one _ c3_len one3 rfl (.tmp 68) (.tmp 75) 37 rfl w1.heap.size 72 i0 _ Try.underFeats hi hz0 hz1 hz2 rfl (by decide) (by decide) A' k c' (fsN (resN x m m) (b1, b2, b3, b4) k) rfl (HW4.out.alloc _) w4.heap.size 1 (nx, ny, dv) rfl ?_ ?_ ?_ ?_)
              all_goals first | omega | (intro A2 c2 w5 (hw5 : (World.ownsRow _ _ _ _ _ _ _)) hb5) | (intro j u hu; have h8 := news3 (Cell3.new w4 nx ny dv 72) j u (by simpa using hu); simpa using h8) | (simp; omega)
              have hb6 : Below w1.heap.size w1 w5 := (hb4.alloc (by omega) _).trans hb5
              have O5 := Lib.hid hw5
              clear hw5 hb5
              go_wp2
              exact ⟨⟨k + 1, c2, A2, by omega, by go_num, rfl, by rw [HD.out], hb6, by show World.ownsRow _ _ _ _ _ _ _; rw [fsN_step, fsQ_of hp.out HD.out, HNP.out]; rw [List.flatMap_append]; exact (by simpa using O5.out)⟩, by simp [intOf]; omega⟩
          · have hx2 : ¬ qx - px = 0 := fun h9 => hx (by omega)
            have hxd : (qx - px == 0) = false := by simpa using hx2
            have hxd2 : decide (qx - px = 0) = false := decide_eq_false hx2
            have o1 : IntKind.i64.wrap (qx - px) = qx - px := IntWalk.i64_in _ (by omega)
            have Z1 := Lib.hid (fun W => l05Sector_any (qx - px) (qy - py) W (by omega) (by omega) (by omega) (by omega))
            obtain ⟨dv, hdv⟩ : ∃ d, dirV (qx - px) (qy - py) = d := ⟨_, rfl⟩
            simp only [hdv] at HD Z1
            clear hdv
            go_wp2_with fail
            go_quiet (fail)
            obtain ⟨nq1, rfl⟩ : ∃ q, q = nq := ⟨_, rfl⟩
            go_wp2_with fail
            go_quiet (fail)
            have hbr : Below wr.heap.size wr ((wr.drewN nq1).drewN nq) := below_drewN (below_drewN (Below.refl _ _) _) _
            have hbq : Below w1.heap.size w1 ((wr.drewN nq1).drewN nq) := below_drewN (below_drewN hb _) _
            generalize (wr.drewN nq1).drewN nq = wq at *
            have Jw := (J1.on hbq)
            have zj := Jw.lt
            have hsq := hbq.size
            have HWq := Lib.hid (own_below HW.out hbr)
            have j0 := Jw.cell 0
            have j1 := Jw.cell 1
            have j2 := Jw.cell 2
            have j3 := Jw.cell 3
            simp only [List.getElem?_toArray, List.getElem?_cons_succ, List.getElem?_cons_zero] at j0 j1 j2 j3
            replace u0 := (hbr.cell (p := ⟨b, off + k * 2, none⟩) hbl).trans u0
            replace u1 := (hbr.cell (p := ⟨b, off + k * 2 + 1, none⟩) hbl).trans u1
            replace hbl : b < wq.heap.size := by have := hbr.size; omega
            clear hbr HW
            go_wp2_with (first | (go_at_call 84; with_reducible refine (Z1.out _).mono ?_; rintro e w7 ⟨rfl, rfl⟩))
            go_cut [13] from 62 to 67 (fun pp w' => ∃ g9 : Nat, pp = .pointer (some ⟨g9, 0, none⟩) ∧ Below wq.heap.size wq w' ∧ Blk w' g9 96 #[.int .i64 nx, .int .i64 ny])
            case first =>
              go_region_law (first | (go_simp; go_at_call 85; with_reducible refine (l07Normal_any px py b1 b2 b3 b4 _ hbx HIB.out).mono ?_; rw [HNP.out]; rintro e w3 ⟨rfl, hb3⟩; have hb39 : Below wq.heap.size wq w3 := (by first | exact below_app ((Below.refl _ _).drew) hb3 (Nat.le_refl _) | exact below_app (((Below.refl _ _).alloc (Nat.le_refl _) _).drew) hb3 (by simp)); (first | (have J9 := ((Blk.new wq 96 #[.int .i64 0, .int .i64 0]).drew).on hb3; obtain ⟨m0, m1, g0, g1, zm⟩ := J9.two) | skip)))
              all_goals
                go_wp2
                go_meet
                first
                  | exact ⟨w3.heap.size, rfl, hb39.alloc hb39.size _, Blk.new _ _ _⟩
                  | exact ⟨_, rfl, (hb39.setCell (by simp) _).setCell (by simp) _, (J9.set_ 0 _).set_ 1 _⟩
            case rest =>
              obtain ⟨g9, rfl, hbc, JP⟩ := hcut
              rename World => w4
              have hb4 := below_app hbq hbc (by omega)
              have HW4 := Lib.hid (own_below HWq.out hbc)
              have hs4 := hb4.size
              obtain ⟨m0, m1, _, _, zm⟩ := JP.two
              clear j0 j1 j2 j3 u0 u1
              go_wp2_with (at_builtin; with_reducible refine app_one _ c3_len one3 rfl (.tmp 68) (.tmp 75) 37 rfl w1.heap.size 72 i0 _ Try.underFeats hi hz0 hz1 hz2 rfl (by decide) (by decide) A' k c' (fsN (resN x m m) (b1, b2, b3, b4) k) rfl (HW4.out.alloc _) w4.heap.size 1 (nx, ny, dv) rfl ?_ ?_ ?_ ?_)
              all_goals first | omega | (intro A2 c2 w5 (hw5 : (World.ownsRow _ _ _ _ _ _ _)) hb5) | (intro j u hu; have h8 := news3 (Cell3.new w4 nx ny dv 72) j u (by simpa using hu); simpa using h8) | (simp; omega)
              have hb6 : Below w1.heap.size w1 w5 := (hb4.alloc (by omega) _).trans hb5
              have O5 := Lib.hid hw5
              clear hw5 hb5
              go_wp2
              exact ⟨⟨k + 1, c2, A2, by omega, by go_num, rfl, by rw [HD.out], hb6, by show World.ownsRow _ _ _ _ _ _ _; rw [fsN_step, fsQ_of hp.out HD.out, HNP.out]; rw [List.flatMap_append]; exact (by simpa using O5.out)⟩, by simp [intOf]; omega⟩
      · have j1 : ¬ (k : Int) + 1 < (m : Int) := by omega
        have jd : decide ((k : Int) + 1 < (m : Int)) = false := decide_eq_false j1
        have HD : Hid (dirS (resN x m m) (k + 1) = dk) := (dirS_last (by rw [hsl.out]; omega)).trans HDK.out
        obtain ⟨wq, hwq⟩ : ∃ W, W = wr := ⟨_, rfl⟩
        have hbr : Below wr.heap.size wr wq := by rw [hwq]; exact Below.refl _ _
        have hbq : Below w1.heap.size w1 wq := by rw [hwq]; exact hb
        go_wp2_with fail
        rw [← hwq]
        clear hwq
        have Jw := (J1.on hbq)
        have zj := Jw.lt
        have hsq := hbq.size
        have HWq := Lib.hid (own_below HW.out hbr)
        have j0 := Jw.cell 0
        have j1 := Jw.cell 1
        have j2 := Jw.cell 2
        have j3 := Jw.cell 3
        simp only [List.getElem?_toArray, List.getElem?_cons_succ, List.getElem?_cons_zero] at j0 j1 j2 j3
        replace u0 := (hbr.cell (p := ⟨b, off + k * 2, none⟩) hbl).trans u0
        replace u1 := (hbr.cell (p := ⟨b, off + k * 2 + 1, none⟩) hbl).trans u1
        replace hbl : b < wq.heap.size := by have := hbr.size; omega
        clear hbr HW
        go_wp2_with fail
        go_cut [13] from 62 to 67 (fun pp w' => ∃ g9 : Nat, pp = .pointer (some ⟨g9, 0, none⟩) ∧ Below wq.heap.size wq w' ∧ Blk w' g9 96 #[.int .i64 nx, .int .i64 ny])
        case first =>
          go_region_law (first | (go_simp; go_at_call 85; with_reducible refine (l07Normal_any px py b1 b2 b3 b4 _ hbx HIB.out).mono ?_; rw [HNP.out]; rintro e w3 ⟨rfl, hb3⟩; have hb39 : Below wq.heap.size wq w3 := (by first | exact below_app ((Below.refl _ _).drew) hb3 (Nat.le_refl _) | exact below_app (((Below.refl _ _).alloc (Nat.le_refl _) _).drew) hb3 (by simp)); (first | (have J9 := ((Blk.new wq 96 #[.int .i64 0, .int .i64 0]).drew).on hb3; obtain ⟨m0, m1, g0, g1, zm⟩ := J9.two) | skip)))
          all_goals
            go_wp2
            go_meet
            first
              | exact ⟨w3.heap.size, rfl, hb39.alloc hb39.size _, Blk.new _ _ _⟩
              | exact ⟨_, rfl, (hb39.setCell (by simp) _).setCell (by simp) _, (J9.set_ 0 _).set_ 1 _⟩
        case rest =>
          obtain ⟨g9, rfl, hbc, JP⟩ := hcut
          rename World => w4
          have hb4 := below_app hbq hbc (by omega)
          have HW4 := Lib.hid (own_below HWq.out hbc)
          have hs4 := hb4.size
          obtain ⟨m0, m1, _, _, zm⟩ := JP.two
          clear j0 j1 j2 j3 u0 u1
          go_wp2_with (at_builtin; with_reducible refine app_one _ c3_len one3 rfl (.tmp 68) (.tmp 75) 37 rfl w1.heap.size 72 i0 _ Try.underFeats hi hz0 hz1 hz2 rfl (by decide) (by decide) A' k c' (fsN (resN x m m) (b1, b2, b3, b4) k) rfl (HW4.out.alloc _) w4.heap.size 1 (nx, ny, dk) rfl ?_ ?_ ?_ ?_)
          all_goals first | omega | (intro A2 c2 w5 (hw5 : (World.ownsRow _ _ _ _ _ _ _)) hb5) | (intro j u hu; have h8 := news3 (Cell3.new w4 nx ny dk 72) j u (by simpa using hu); simpa using h8) | (simp; omega)
          have hb6 : Below w1.heap.size w1 w5 := (hb4.alloc (by omega) _).trans hb5
          have O5 := Lib.hid hw5
          clear hw5 hb5
          go_wp2
          exact ⟨⟨k + 1, c2, A2, by omega, by go_num, rfl, by rw [HD.out], hb6, by show World.ownsRow _ _ _ _ _ _ _; rw [fsN_step, fsQ_of hp.out HD.out, HNP.out]; rw [List.flatMap_append]; exact (by simpa using O5.out)⟩, by simp [intOf]; omega⟩
    · have hkm : k = m := by omega
      subst hkm
      go_wp2
      go_ret
      exact ⟨A', c', rfl, own_mono HW.out hB.size, below_app hB hb hB.size⟩
end Go.Proofs.Ytbfilhpgekgmbaa
