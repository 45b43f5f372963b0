/- Stores in the laws: marked, and the marks read back. -/
import Derived.Test.YtnjifhlabbejoaaGreatDoorTs
import Derived.Test.YtnjifhlabbejoaaGreatDoorFlStr
import Derived.Deep.RegionHeld3
namespace Go.Proofs.YtnjifhlabbejoaaGreatDoor
open Go.ChangeShapes Go.WideShapes Go.ChangeAt Go.RowKit
set_option linter.unusedVariables false
set_option linter.unusedSimpArgs false
/-- Two rows whose elements are of two types lie in two blocks. -/
theorem own_ty {w : World} {b b' e e' s s' n n' c c' : Nat} {a a' : Addr} {xs ys : List Value} (h : w.ownsRow b e s (.slice (some a) n c) n xs) (h' : w.ownsRow b' e' s' (.slice (some a') n' c') n' ys) (hne : e ≠ e') : a.block ≠ a'.block := by
  rcases h.2 with ⟨hv, _⟩ | ⟨g, cap, cur, hv, _, hh, _⟩
  · cases hv
  · rcases h'.2 with ⟨hv', _⟩ | ⟨g', cap', cur', hv', _, hh', _⟩
    · cases hv'
    · cases hv; cases hv'
      rintro rfl
      rw [hh] at hh'
      simp only [Option.some.injEq, Obj.cells.injEq] at hh'
      exact hne hh'.2.1
theorem own_ty' {w : World} {b b' e e' s s' n n' c c' : Nat} {A : Option Addr} {a : Addr} {xs ys : List Value} (h : w.ownsRow b e s (.slice (some a) n c) n xs) (h' : w.ownsRow b' e' s' (.slice A n' c') n' ys) (hne : e ≠ e') : (Value.slice A n' c').ownBlock ≠ some a.block := by
  cases A with
  | none => simp [Value.ownBlock]
  | some a' => have := own_ty h h' hne; simp [Value.ownBlock]; exact fun e9 => this e9.symm
theorem grown_alloc2 {w w' : World} {r : Option Nat} {o : Obj} (h : (w.alloc o).grownBy w' r) : w.grownBy w' r :=
  ⟨h.os, h.tape, h.output, Nat.le_trans (by simp) h.size, fun i hi hne => (h.block i (by simp; omega) hne).trans (Below.heap_alloc w o i hi)⟩
theorem List.single_le_sum_nat {ls : List Nat} {r m : Nat} (h : ls[r]? = some m) : m ≤ ls.sum := by
  have h1 := List.mem_of_getElem? h
  clear h
  induction ls with
  | nil => simp at h1
  | cons a l ih => rcases List.mem_cons.1 h1 with rfl | h2
                   · simp
                   · have := ih h2; simp; omega
def kAt (k : Int) (ls : List Nat) (r : Nat) : Int := k + r + 3 * ((ls.take r).sum : Nat)
theorem kAt_zero (k : Int) (ls : List Nat) : kAt k ls 0 = k := by simp [kAt]
theorem kAt_step {k : Int} {ls : List Nat} {r m : Nat} (h : ls[r]? = some m) : kAt k ls (r + 1) = kAt k ls r + 1 + 3 * m := by
  unfold kAt; rw [take_succ_of h]; simp; omega
theorem sum_take_le (ls : List Nat) (r : Nat) : (ls.take r).sum ≤ ls.sum := by
  have h : ls = ls.take r ++ ls.drop r := (List.take_append_drop r ls).symm
  conv => rhs; rw [h, List.sum_append]
  omega
def lens (xs : List TV) : List Nat := xs.map (fun x => x.2.length)
theorem lens_len (xs : List TV) : (lens xs).length = xs.length := by simp [lens]
theorem lens_at {xs : List TV} {k : Nat} {x : TV} (h : xs[k]? = some x) : (lens xs)[k]? = some x.2.length := by simp [lens, h]
theorem lens_sum {xs : List TV} {N : Nat} (h : totT xs ≤ N) : xs.length + (lens xs).sum ≤ N := by
  have h2 : (lens xs).sum ≤ (xs.map szT).sum := by
    unfold lens szT
    induction xs with
    | nil => simp
    | cons x xs ih => simp only [List.map_cons, List.sum_cons]; have := ih (by unfold totT at h ⊢; simp only [List.length_cons, List.map_cons, List.sum_cons] at h; omega); omega
  unfold totT at h; omega
theorem kAt_bd {xs : List TV} {k : Int} {r : Nat} (h : totT xs ≤ 1048576) (hr : r ≤ xs.length) (h0 : 0 < k) (h1 : k ≤ 1048576) : 0 < kAt k (lens xs) r ∧ kAt k (lens xs) r ≤ 8388608 := by
  have h2 := lens_sum h
  have h3 := sum_take_le (lens xs) r
  unfold kAt; omega
/-- Templates whose labels and features are marks. -/
def mkT (k : Int) (ls : List Nat) : List TV := (List.range ls.length).map (fun r => (mtx (kAt k ls r).toNat, marks3 (kAt k ls r + 1) (ls.getD r 0)))
theorem mkT_len (k : Int) (ls : List Nat) : (mkT k ls).length = ls.length := by simp [mkT]
theorem mkT_at {k : Int} {ls : List Nat} {r : Nat} {x : TV} (h : (mkT k ls)[r]? = some x) : ∃ m, ls[r]? = some m ∧ x = (mtx (kAt k ls r).toNat, marks3 (kAt k ls r + 1) m) := by
  simp only [mkT, List.getElem?_map, Option.map_eq_some_iff] at h
  obtain ⟨j, hj, rfl⟩ := h
  obtain ⟨hlt, rfl⟩ := List.getElem?_eq_some_iff.1 hj
  simp only [List.length_range] at hlt
  refine ⟨ls[r], by simp [hlt], ?_⟩
  simp [List.getD_eq_getElem?_getD, hlt]
theorem mkT_get {k : Int} {ls : List Nat} {r m : Nat} (h : ls[r]? = some m) : (mkT k ls)[r]? = some (mtx (kAt k ls r).toNat, marks3 (kAt k ls r + 1) m) := by
  have hlt := (List.getElem?_eq_some_iff.1 h).1
  obtain ⟨x, hx⟩ : ∃ x, (mkT k ls)[r]? = some x := ⟨_, List.getElem?_eq_getElem (by rw [mkT_len]; exact hlt)⟩
  obtain ⟨m', hm', rfl⟩ := mkT_at hx
  rw [h] at hm'; cases hm'
  exact hx
theorem mkT_lens (k : Int) (ls : List Nat) : lens (mkT k ls) = ls := by
  apply List.ext_getElem?
  intro r
  by_cases h : r < ls.length
  · have h1 : ls[r]? = some ls[r] := List.getElem?_eq_getElem h
    rw [h1, lens_at (mkT_get h1), marks3_len]
  · rw [List.getElem?_eq_none (show (lens (mkT k ls)).length ≤ r by rw [lens_len, mkT_len]; omega), List.getElem?_eq_none (show ls.length ≤ r by omega)]
/-- A store of a label into a row of headers. -/
theorem labT {w : World} {base g n c j : Nat} {e : TypeId} {hs : List HT} {q : HT} (h : w.ownsRow base e 2 (.slice (some ⟨g, 0, none⟩) n c) n (hs.flatMap cT)) (hq : hs[j]? = some q) (l : ByteArray) :
    (w.setCell ⟨g, j * 2, none⟩ (.string l)).ownsRow base e 2 (.slice (some ⟨g, 0, none⟩) n c) n ((hs.set j (l, q.2)).flatMap cT) := by
  have h1 := (h.stored (j * 2) (.string l)).1
  have hlt := (List.getElem?_eq_some_iff.1 hq).1
  have e1 : hs = hs.take j ++ q :: hs.drop (j + 1) := by rw [← drop_of hq, List.take_append_drop]
  have e2 : (hs.flatMap cT).set (j * 2) (.string l) = (hs.set j (l, q.2)).flatMap cT := by
    have e3 : hs.set j (l, q.2) = hs.take j ++ (l, q.2) :: hs.drop (j + 1) := by rw [List.set_eq_take_append_cons_drop, if_pos hlt]
    rw [e3]
    conv => lhs; rw [e1]
    rw [List.flatMap_append, List.flatMap_append, over1 (by rw [flat_len cT_len, List.length_take]; omega) (by simp [cT]), List.append_assoc]
    simp [cT]
  rw [e2] at h1
  exact h1
theorem snd_of {hj hs : List HT} (h : hj.map Prod.snd = hs.map Prod.snd) {r : Nat} {q : HT} (hq : hj[r]? = some q) : ∃ q0, hs[r]? = some q0 ∧ q0.2 = q.2 := by
  have h1 : (hj.map Prod.snd)[r]? = some q.2 := by rw [List.getElem?_map, hq]; rfl
  rw [h, List.getElem?_map, Option.map_eq_some_iff] at h1
  exact h1
theorem snd_set {hj : List HT} {j : Nat} {q : HT} (hq : hj[j]? = some q) (l : ByteArray) : (hj.set j (l, q.2)).map Prod.snd = hj.map Prod.snd := by
  apply List.ext_getElem?
  intro r
  rw [List.getElem?_map, List.getElem?_map, List.getElem?_set]
  by_cases h : j = r
  · subst h
    rw [if_pos rfl, if_pos (List.getElem?_eq_some_iff.1 hq).1, hq]; rfl
  · rw [if_neg h]
set_option maxHeartbeats 8000000 in
theorem markTemplateS_own (A : Option Addr) (n c b0 base top : Nat) (xs : List TV) (hs : List HT) (k : Int) (w : World) (ho : w.ownsRow b0 42 2 (.slice A n c) n (hs.flatMap cT)) (hl : hs.length = n) (hx : xs.length = n) (hu : TLo w base 60 hs xs) (hd : TLd hs)
    (hin : ∀ (i : Nat) (q : HT) (a : Addr), hs[i]? = some q → q.2.1 = some a → base ≤ a.block ∧ a.block < top) (hA : ∀ a, A = some a → base ≤ a.block ∧ a.block < top) (hB : base ≤ w.heap.size) (ht : top ≤ w.heap.size) (hn : totT xs ≤ 1048576) (hk0 : 0 < k) (hk1 : k ≤ 1048576) :
    Calls Tryz.prog 18 #[.slice A n c, .int .i64 k] w fun e w' => ∃ hs' : List HT, e = .returned (.int .i64 (kAt k (lens xs) n)) ∧ Chg base top w w' ∧ w'.ownsRow b0 42 2 (.slice A n c) n (hs'.flatMap cT) ∧ hs'.length = n ∧
      TLo w' base 60 hs' (mkT k (lens xs)) ∧ hs'.map Prod.snd = hs.map Prod.snd := by
  have HX := Lib.hid hx
  have hcap : n ≤ 1048576 := by have h := totT_len xs; rw [hx] at h; omega
  have HU := Lib.hid hu
  have HD := Lib.hid hd
  have HIN := Lib.hid hin
  have HAA := Lib.hid hA
  have HO := Lib.hid ho
  have HL := Lib.hid hl
  have HN := Lib.hid hn
  clear hx hu hd hin hA ho hl hn
  go_enter Tryz.func18, Tryz.ntmps18
  go_wp2_with fail
  go_loopw [1, 5] (fun q i wr => ∃ (j : Nat) (hj : List HT), j ≤ n ∧ i = .int .i64 j ∧ q = .int .i64 (kAt k (lens xs) j) ∧ Chg base top w wr ∧ Hid (wr.ownsRow b0 42 2 (.slice A n c) n (hj.flatMap cT)) ∧ Hid (hj.length = n) ∧ Hid (hj.map Prod.snd = hs.map Prod.snd) ∧
      Hid (∀ (r : Nat) (h : HT) (x : TV), hj[r]? = some h → xs[r]? = some x → x.2.length = h.2.2.1 ∧ (r < j → h.1 = mtx (kAt k (lens xs) r).toNat ∧ wr.ownsRow base 60 3 (.slice h.2.1 h.2.2.1 h.2.2.2) h.2.2.1 ((marks3 (kAt k (lens xs) r + 1) x.2.length).flatMap c3)) ∧ (j ≤ r → wr.ownsRow base 60 3 (.slice h.2.1 h.2.2.1 h.2.2.2) h.2.2.1 (x.2.flatMap c3)))) (fun _ i _ => n - (intOf i).toNat)
  case atStart => exact ⟨0, hs, by omega, rfl, by rw [kAt_zero], Chg.refl _ _ _, HO.out, HL.out, rfl, fun r h x h1 h2 => ⟨(HU.out r h x h1 h2).2.1, fun h9 => absurd h9 (by omega), fun _ => (HU.out r h x h1 h2).2.2⟩⟩
  case round =>
    obtain ⟨j, hj, hjn, rfl, rfl, hc, hO, hL, hM, hrest⟩ := hrel
    obtain ⟨kb0, kb1⟩ := kAt_bd (r := j) HN.out (by rw [HX.out]; exact hjn) hk0 hk1
    by_cases hlt : j < n
    · obtain ⟨g, rfl, hg0, hg1⟩ := own_at hO.out (by omega)
      obtain ⟨q, hq⟩ : ∃ q, hj[j]? = some q := ⟨_, List.getElem?_eq_getElem (by rw [hL.out]; exact hlt)⟩
      obtain ⟨x, hxx⟩ : ∃ x, xs[j]? = some x := ⟨_, List.getElem?_eq_getElem (by rw [HX.out]; exact hlt)⟩
      have hstep := Lib.hid (kAt_step (k := k) (lens_at hxx))
      obtain ⟨r1, r2, r3⟩ := hrest.out j q x hq hxx
      have hro := r3 (Nat.le_refl _)
      have HRO := Lib.hid hro
      have hlx : x.2.length ≤ 1048576 := (totT_mem hxx HN.out).2
      have i1 : (j : Int) < (n : Int) := by omega
      have i2 : (0 : Int) ≤ (j : Int) := by omega
      have hg2 := HAA.out _ rfl
      simp only at hg2
      have HQ := Lib.hid hq
      have HXX := Lib.hid hxx
      have hzc := hc.1.size
      obtain ⟨kj, hkj⟩ : ∃ kj, Hid (kAt k (lens xs) j = kj) := ⟨_, rfl⟩
      rw [hkj.out] at kb0 kb1 hstep ⊢
      clear hq hxx r2 r3 hro
      go_wp2_with fail
      with_reducible refine (markTextI_any _ _ kb0 (by omega)).mono ?_
      rintro e w2 ⟨rfl, hb2⟩
      have hO2 := own_below hO.out hb2
      obtain ⟨⟨v0, e0⟩, f0⟩ := own_cell hO2 (j := j * 2) (by omega)
      have hO3 := labT hO2 HQ.out (mtx kj.toNat)
      have e1 : w2.cell? ⟨g, j * 2 + 1, none⟩ = some (.slice q.2.1 q.2.2.1 q.2.2.2) := by
        rw [hO2.cellAt (j * 2 + 1) (by omega), flat_get cT_len hj j 1 q HQ.out (by omega)]; rfl
      have hc2 : Chg base top wr w2 := ⟨hb2.mono (by omega), fun b hb hw => hb2.block b hw⟩
      have hc3 : Chg base top w2 (w2.setCell ⟨g, j * 2, none⟩ (.string (mtx kj.toNat))) := ⟨(Below.refl _ _).setCell (by simp only; omega) _, fun b hb hw => Below.heap_setCell w2 ⟨g, j * 2, none⟩ _ b (by simp only; omega)⟩
      have hzw := hb2.size
      have HO3 := Lib.hid hO3
      have hc5 := (hc.trans hc2).trans hc3
      have HR2 : Hid (∀ (r : Nat) (h : HT) (x : TV), hj[r]? = some h → xs[r]? = some x → x.2.length = h.2.2.1 ∧ (r < j → h.1 = mtx (kAt k (lens xs) r).toNat ∧ (w2.setCell ⟨g, j * 2, none⟩ (.string (mtx kj.toNat))).ownsRow base 60 3 (.slice h.2.1 h.2.2.1 h.2.2.2) h.2.2.1 ((marks3 (kAt k (lens xs) r + 1) x.2.length).flatMap c3)) ∧ (j ≤ r → (w2.setCell ⟨g, j * 2, none⟩ (.string (mtx kj.toNat))).ownsRow base 60 3 (.slice h.2.1 h.2.2.1 h.2.2.2) h.2.2.1 (x.2.flatMap c3))) := by
        intro r h x h1 h2
        obtain ⟨g1, g2, g3⟩ := hrest.out r h x h1 h2
        refine ⟨g1, fun hr => ⟨(g2 hr).1, ?_⟩, fun hr => ?_⟩
        · refine ownsRow_setCell_other (own_below (g2 hr).2 hb2) ?_ _
          have h8 := own_ty' hO2 (own_below (g2 hr).2 hb2) (by decide)
          exact h8
        · refine ownsRow_setCell_other (own_below (g3 hr) hb2) ?_ _
          have h8 := own_ty' hO2 (own_below (g3 hr) hb2) (by decide)
          exact h8
      have HRO3 := Lib.hid ((HR2.out j q x HQ.out HXX.out).2.2 (Nat.le_refl _))
      clear hO2 hO3 hc2 hc3 hrest hb2 HRO
      obtain ⟨ql, qa, qn, qc⟩ := q
      simp only at e1 r1 HRO3
      go_wp2_with fail
      have o1 : IntKind.i64.wrap (kj + 1) = kj + 1 := IntWalk.i64_in _ (by omega)
      generalize w2.setCell ⟨g, j * 2, none⟩ (.string (mtx kj.toNat)) = w3 at *
      with_reducible refine (markFeatS_any _ _ _ _ _ _ _ HRO3.out (by omega) (by omega) (by omega)).mono ?_
      rintro e w4 ⟨rfl, o4, hg4⟩
      clear o1
      obtain ⟨q0, hq0, hq02⟩ := snd_of hM.out HQ.out
      have hc6 : Chg base top w3 w4 := Chg.of_grown hg4 (by have := hc5.1.size; omega) (fun g9 hg9 => by
        cases hqa : qa with
        | none => rw [hqa] at hg9; simp [Value.ownBlock] at hg9
        | some a => rw [hqa] at hg9; simp [Value.ownBlock] at hg9; subst hg9; exact HIN.out j q0 a hq0 (by rw [hq02]; exact hqa))
      have HO4 := Lib.hid (HO3.out.kept hg4 (.inr (fun h9 => own_ty' HO3.out HRO3.out (by decide) h9.symm)))
      have HKE := Lib.hid (show kj + 1 + 3 * (qn : Int) = kAt k (lens xs) (j + 1) by rw [hstep.out, r1])
      have HO5 := Lib.hid o4
      clear o4 hq0
      go_wp2
      refine ⟨⟨j + 1, hj.set j (mtx kj.toNat, (qa, qn, qc)), by omega, by go_num, by rw [HKE.out], hc5.trans hc6, HO4.out, by show (hj.set j _).length = n; rw [List.length_set]; exact hL.out, by show (hj.set j _).map Prod.snd = _; rw [← hM.out]; exact snd_set HQ.out _, fun r h x' h1 h2 => ?_⟩, by simp [intOf]; omega⟩
      rw [List.getElem?_set] at h1
      by_cases hjr : j = r
      · subst hjr
        rw [if_pos rfl, if_pos (by rw [hL.out]; exact hlt)] at h1
        cases h1
        rw [HXX.out] at h2; cases h2
        refine ⟨r1, fun _ => ⟨by rw [hkj.out], ?_⟩, fun h9 => absurd h9 (by omega)⟩
        rw [hkj.out, r1]
        exact HO5.out
      · rw [if_neg hjr] at h1
        obtain ⟨g1, g2, g3⟩ := HR2.out r h x' h1 h2
        have hne : (Value.slice h.2.1 h.2.2.1 h.2.2.2).ownBlock = none ∨ (Value.slice h.2.1 h.2.2.1 h.2.2.2).ownBlock ≠ (Value.slice qa qn qc).ownBlock := by
          cases hqa : qa with
          | none =>
            cases hh : h.2.1 with
            | none => exact .inl (by simp [Value.ownBlock])
            | some a => exact .inr (by simp [Value.ownBlock])
          | some a =>
            cases hh : h.2.1 with
            | none => exact .inl (by simp [Value.ownBlock])
            | some a' =>
              obtain ⟨q9, hq9, hq92⟩ := snd_of hM.out h1
              obtain ⟨q0, hq0, hq02⟩ := snd_of hM.out HQ.out
              refine .inr ?_
              have hab : a'.block ≠ a.block := by
                rcases Nat.lt_or_gt_of_ne hjr with hlt9 | hlt9
                · exact (HD.out.ne hlt9 hq0 hq9 (by rw [hq02]; exact hqa) (by rw [hq92]; exact hh)).symm
                · exact HD.out.ne hlt9 hq9 hq0 (by rw [hq92]; exact hh) (by rw [hq02]; exact hqa)
              simp [Value.ownBlock]; exact hab
        exact ⟨g1, fun hr => ⟨(g2 (by omega)).1, (g2 (by omega)).2.kept hg4 hne⟩, fun hr => (g3 (by omega)).kept hg4 hne⟩
    · have hjn' : j = n := by omega
      subst hjn'
      go_wp2
      go_ret
      refine ⟨hj, rfl, hc, hO.out, hL.out, fun r h x h1 h2 => ?_, hM.out⟩
      obtain ⟨m, hm, rfl⟩ := mkT_at h2
      obtain ⟨y, hy, rfl⟩ : ∃ y, xs[r]? = some y ∧ y.2.length = m := by
        simp only [lens, List.getElem?_map, Option.map_eq_some_iff] at hm
        exact hm
      have hrl : r < j := by have := (List.getElem?_eq_some_iff.1 h1).1; rw [hL.out] at this; exact this
      obtain ⟨g1, g2, _⟩ := hrest.out r h y h1 hy
      exact ⟨(g2 hrl).1, by rw [marks3_len]; exact g1, (g2 hrl).2⟩
theorem Blk.chg {base top g : Nat} {w w' : World} {t : TypeId} {cs : Array Value} (h : Blk w g t cs) (hc : Chg base top w w') (hg : top ≤ g) : Blk w' g t cs := (hc.2 g hg h.lt).trans h
theorem Chg.alloc {base top : Nat} {w : World} (hB : base ≤ w.heap.size) (o : Obj) : Chg base top w (w.alloc o) := ⟨(Below.refl _ _).alloc hB _, fun b _ hb => Below.heap_alloc w o b hb⟩
set_option maxHeartbeats 1000000 in
theorem markStore_own (z : Int) (A : Option Addr) (n c b0 base top : Nat) (xs : List TV) (hs : List HT) (k : Int) (w : World) (ho : w.ownsRow b0 42 2 (.slice A n c) n (hs.flatMap cT)) (hl : hs.length = n) (hx : xs.length = n) (hu : TLo w base 60 hs xs) (hd : TLd hs)
    (hin : ∀ (i : Nat) (q : HT) (a : Addr), hs[i]? = some q → q.2.1 = some a → base ≤ a.block ∧ a.block < top) (hA : ∀ a, A = some a → base ≤ a.block ∧ a.block < top) (hB : base ≤ w.heap.size) (ht : top ≤ w.heap.size) (hn : totT xs ≤ 1048576) (hk0 : 0 < k) (hk1 : k ≤ 1048576) :
    Calls Tryz.prog 7 #[.agg #[.int .i64 z, .slice A n c], .int .i64 k] w fun e w' => ∃ hs' : List HT, e = .returned (.int .i64 (kAt k (lens xs) n)) ∧ Chg base top w w' ∧ w'.ownsRow b0 42 2 (.slice A n c) n (hs'.flatMap cT) ∧ hs'.length = n ∧
      TLo w' base 60 hs' (mkT k (lens xs)) ∧ hs'.map Prod.snd = hs.map Prod.snd := by
  have hc0 : Chg base top w (w.alloc (.cells #[.int .i64 z, .slice A n c] 24)) := Chg.alloc hB _
  have hz1 : base ≤ (w.alloc (.cells #[.int .i64 z, .slice A n c] 24)).heap.size := by simp; omega
  have hz2 : top ≤ (w.alloc (.cells #[.int .i64 z, .slice A n c] 24)).heap.size := by simp; omega
  have HU := Lib.hid hu
  have HD := Lib.hid hd
  have HIN := Lib.hid hin
  have HAA := Lib.hid hA
  have HX := Lib.hid hx
  have HL := Lib.hid hl
  clear hu hd hin hA hx hl
  go_enter Tryz.func7, Tryz.ntmps7
  go_wp2_with fail
  with_reducible refine (markTemplateS_own A n c b0 base top xs hs k _ (ho.alloc _) HL.out HX.out (HU.out.on ((Below.refl _ _).alloc (Nat.le_refl _) _)) HD.out HIN.out HAA.out hz1 hz2 hn hk0 hk1).mono ?_
  rintro e w1 ⟨hs', rfl, hc, ho1, hl1, hu1, hm1⟩
  have HU1 := Lib.hid hu1
  have HL1 := Lib.hid hl1
  have HM1 := Lib.hid hm1
  have HO1 := Lib.hid ho1
  clear hu1 hl1 hm1 ho1
  go_wp2
  go_ret
  exact ⟨hs', rfl, hc0.trans hc, HO1.out, HL1.out, HU1.out, HM1.out⟩
set_option maxHeartbeats 4000000 in
theorem heldTemplateS_any (A : Option Addr) (n c : Nat) (ls : List Nat) (k : Int) (w : World) (hr : TL w w.heap.size A n c (mkT k ls)) (hn : n + ls.sum ≤ 1048576) (hk0 : 0 < k) (hk1 : k ≤ 1048576) :
    Calls Tryz.prog 19 #[.slice A n c, .int .i64 k] w fun e w' => e = .returned (.int .i64 (kAt k ls n)) ∧ Below w.heap.size w w' := by
  have hl := Lib.hid (show ls.length = n by rw [← mkT_len k ls]; exact hr.len)
  have HR := Lib.hid hr
  clear hr
  go_enter Tryz.func19, Tryz.ntmps19
  go_wp2_with fail
  go_loopw [1, 5] (fun q i wr => ∃ j : Nat, j ≤ n ∧ i = .int .i64 j ∧ q = .int .i64 (kAt k ls j) ∧ Below w.heap.size w wr) (fun _ i _ => n - (intOf i).toNat)
  case atStart => exact ⟨0, by omega, rfl, by rw [kAt_zero], Below.refl _ _⟩
  case round =>
    obtain ⟨j, hj, rfl, rfl, hb⟩ := hrel
    have kb : 0 < kAt k ls j ∧ kAt k ls j ≤ 8388608 := by have h3 := sum_take_le ls j; unfold kAt; omega
    obtain ⟨kb0, kb1⟩ := kb
    by_cases hlt : j < n
    · obtain ⟨b, off, s, A', n', c', x, rfl, hbl, hx, q0, q1, hx3⟩ := (HR.out.on hb).at_ hlt
      obtain ⟨m, hm, hxm⟩ := mkT_at hx.out
      simp only [Prod.mk.injEq] at hxm
      obtain ⟨rfl, rfl⟩ := hxm
      have hmn := hx3.len
      rw [marks3_len] at hmn
      subst hmn
      have hstep := Lib.hid (kAt_step (k := k) hm)
      have hmm : m ≤ ls.sum := List.single_le_sum_nat hm
      obtain ⟨kj, hkj⟩ : ∃ kj, Hid (kAt k ls j = kj) := ⟨_, rfl⟩
      rw [hkj.out] at kb0 kb1 hstep q0 hx3 ⊢
      have i1 : (j : Int) < (n : Int) := by omega
      have i2 : (0 : Int) ≤ (j : Int) := by omega
      have hz := hb.size
      have HX3 := Lib.hid hx3
      clear hm hx3
      go_wp2_with fail
      go_region_held3 (fun w' => (∀ b o, b < wr.heap.size → w'.cell? ⟨b, o, none⟩ = wr.cell? ⟨b, o, none⟩) ∧ Below wr.heap.size wr w') (first | exact sk (Below.refl _ _).drew | (go_split_ands; exact sk (below_app ‹_› hbw2 (Below.size ‹_›)))) (first | (go_at_call 39; with_reducible refine (markTextI_any _ _ kb0 (by omega)).mono ?_; rintro e w2 ⟨rfl, hbw2⟩))
      go_split_ands
      have hbb : Below wr.heap.size wr w2 := ‹Below wr.heap.size wr w2›
      have hb3 : Below w.heap.size w w2 := below_app hb hbb hb.size
      replace HX3 := Lib.hid (HX3.out.on hbb)
      replace q1 := cell_on2 hbb q1
      replace hbl := Nat.lt_of_lt_of_le hbl hbb.size
      have o1 : IntKind.i64.wrap (kj + 1) = kj + 1 := IntWalk.i64_in _ (by omega)
      clear hb hbw2 q0
      rename ∀ (b o : Nat), b < wr.heap.size → w2.cell? ⟨b, o, none⟩ = wr.cell? ⟨b, o, none⟩ => hSS
      clear hSS
      go_wp2_with fail
      with_reducible refine (heldFeatS_big _ _ _ _ _ HX3.out (by omega) (by omega) (by omega)).mono ?_
      rintro e w3 ⟨rfl, hbw3⟩
      clear o1
      have hb4 := below_on hbw3 hb3
      have HKE := Lib.hid (show kj + 1 + 3 * (m : Int) = kAt k ls (j + 1) by rw [hstep.out])
      have o3 : ¬ kj + 1 + 3 * (m : Int) < 0 := by omega
      go_wp2
      exact ⟨⟨j + 1, by omega, by go_num, by rw [HKE.out], hb4⟩, by simp [intOf]; omega⟩
    · have hjn : j = n := by omega
      subst hjn
      go_wp2
      go_ret
      exact ⟨rfl, hb⟩
set_option maxHeartbeats 1000000 in
theorem heldStore_any (z : Int) (A : Option Addr) (n c : Nat) (ls : List Nat) (k : Int) (w : World) (hr : TL w w.heap.size A n c (mkT k ls)) (hn : n + ls.sum ≤ 1048576) (hk0 : 0 < k) (hk1 : k ≤ 1048576) :
    Calls Tryz.prog 8 #[.agg #[.int .i64 z, .slice A n c], .int .i64 k] w fun e w' => e = .returned (.int .i64 (kAt k ls n)) ∧ Below w.heap.size w w' := by
  have hB : Below w.heap.size w (w.alloc (.cells #[.int .i64 z, .slice A n c] 24)) := (by repeat (first | exact Below.refl _ _ | assumption | refine Below.drew ?_ | refine below_drewN ?_ _ | refine Below.alloc ?_ (by first | omega | (simp <;> omega)) _ | refine Below.setCell ?_ (by first | omega | (simp <;> omega)) _))
  have h0 : ¬ kAt k ls n < 0 := by have h3 := sum_take_le ls n; unfold kAt; omega
  have HR := Lib.hid hr
  clear hr
  go_enter Tryz.func8, Tryz.ntmps8
  go_wp2_with fail
  with_reducible refine (heldTemplateS_any A n c ls k _ (HR.out.on hB) hn hk0 hk1).mono ?_
  rintro e w1 ⟨rfl, hb1⟩
  go_wp2
  go_ret
  exact ⟨rfl, below_on hb1 hB⟩
end Go.Proofs.YtnjifhlabbejoaaGreatDoor
