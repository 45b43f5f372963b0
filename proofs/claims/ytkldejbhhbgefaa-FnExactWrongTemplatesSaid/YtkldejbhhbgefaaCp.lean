/- Copies of stores: the program's copyStore. -/
import Derived.Test.YtkldejbhhbgefaaSt
import Derived.Test.YtkldejbhhbgefaaTm
import Derived.Test.YtkldejbhhbgefaaPk
import Derived.WalkSpells
import Derived.Deep.RegionLaw
import Derived.Deep.RegionHeld3
namespace Go.Proofs.Ytkldejbhhbgefaa
open Go.ChangeShapes Go.WideShapes Go.ChangeAt Go.RowKit
set_option linter.unusedVariables false
set_option linter.unusedSimpArgs false
/-- append of one element inside a region that draws, with all that it leaves alone. -/
theorem step_grow {P : Program} (w : World) {ops : Array Oper} {o : Oper} {a : Act} {Q : Exit → Act → World → Prop} {K : Act → World → Prop} {E : Prop} {α : Type} {f : α → List Value} {S Y : Nat} (hf : ∀ x, (f x).length = S) (hone : ∀ x, ∀ u ∈ f x, u.oneCell' = true) (hgd : o.guard = none) (s x : Operand) (t : TypeId)
    (ho : o.op = .call { callee := .builtin .append, args := #[s, x], argTypes := #[t, t] }) (base : Nat) (e : TypeId) (i : TypeInfo) (z : Value)
    (h1 : P.underlying t = some (.slice e)) (hi : P.info? e = some i) (hz : i.zero = some z) (hs : i.size = S) (hy : i.bytes = Y) (hzs : z.cells.size = S) (hS : 0 < S) (hY : Y ≤ 4096)
    (A : Option Addr) (n c : Nat) (l : List α) (hv : a.eval s = .slice A n c) (hown : w.ownsRow base e S (.slice A n c) n (l.flatMap f))
    (g c' : Nat) (p : α) (hx : a.eval x = .slice (some ⟨g, 0, none⟩) 1 c') (hcell : ∀ j u, (f p)[j]? = some u → w.cell? ⟨g, j, none⟩ = some u) (hn : n ≤ 1048576) (hbase : base ≤ w.heap.size)
    (k : ∀ A' c' w', w'.ownsRow base e S (.slice A' (n + 1) c') (n + 1) ((l ++ [p]).flatMap f) → w.grownBy w' (Value.slice A n c).ownBlock → K (a.put o.dst (.slice A' (n + 1) c')) w') :
    if Region.wanted o (yielded ops a.tmps) = true then Oper.wp P o a w K Q else E := by
  have hw : Region.wanted o (yielded ops a.tmps) = true := by simp [Region.wanted, hgd]
  rw [if_pos hw]
  have hb : (n + 1) * Y ≤ 140737488355328 := Nat.le_trans (Nat.mul_le_mul (show n + 1 ≤ 1048577 by omega) hY) (by decide)
  have hnews : ∀ j u, (f p)[j]? = some u → w.cell? ((⟨g, 0, none⟩ : Addr).add j) = some u := by
    intro j u hu
    have h := hcell j u hu
    unfold Addr.add
    split
    · rename_i h0; subst h0; exact h
    · simpa using h
  obtain ⟨v', w', hrun, hown', hgrow, _⟩ := run_append_own (P := P) w base t o.type e i z S Y h1 hi hz hs hy hzs hS (.slice A n c) n (l.flatMap f) hown ⟨g, 0, none⟩ 1 c' (f p) (by rw [hf, Nat.one_mul]) hnews (hone p) (by unfold maxLen; omega) hb hbase
  unfold Oper.wp execOp
  simp only [ho, resolve, invoke, builtin, Sem.run_bind, Sem.run_pure, Result.andThen_ok, List.map_toArray, List.map_cons, List.map_nil, hv, hx, hrun]
  obtain ⟨A', c'', rfl, _, _⟩ := own_form hown'
  exact k A' c'' w' (by rw [flat_snoc]; exact hown') hgrow
/-- A store of the call's own, whole. -/
structure TS (w : World) (base : Nat) (tT tF : TypeId) (A : Option Addr) (n c : Nat) (hs : List HT) (xs : List TV) : Prop where
  o : w.ownsRow base tT 2 (.slice A n c) n (hs.flatMap cT)
  l : hs.length = n
  x : xs.length = n
  u : TLo w base tF hs xs
  d : TLd hs
section
variable {w w' : World} {base base' tT tF n c : Nat} {A : Option Addr} {hs : List HT} {xs : List TV}
theorem TS.nil (w : World) (base tT tF : Nat) : TS w base tT tF none 0 0 [] [] := ⟨World.ownsRow_nil _ _ _ _, rfl, rfl, fun k h x h1 => by simp at h1, TLd.nil⟩
theorem TS.on (h : TS w base tT tF A n c hs xs) (hb : Below w.heap.size w w') : TS w' base tT tF A n c hs xs := ⟨own_below h.o hb, h.l, h.x, h.u.on hb, h.d⟩
theorem TS.mono (h : TS w base tT tF A n c hs xs) (hb : base' ≤ base) : TS w base' tT tF A n c hs xs := ⟨own_mono h.o hb, h.l, h.x, h.u.mono hb, h.d⟩
theorem TS.far (h : TS w base tT tF A n c hs xs) {p : Addr} (hp : p.block < base) (u : Value) : TS (w.setCell p u) base tT tF A n c hs xs :=
  ⟨ownsRow_setCell_below h.o hp u, h.l, h.x, fun k q x h1 h2 => ⟨(h.u k q x h1 h2).1, (h.u k q x h1 h2).2.1, ownsRow_setCell_below (h.u k q x h1 h2).2.2 hp u⟩, h.d⟩
theorem TS.tl (h : TS w base tT tF A n c hs xs) : TL w w.heap.size A n c xs := tl_own h.o h.l h.x h.u
/-- Behind an append of a template whose row is newer. -/
theorem TS.push {A' A3 : Option Addr} {c' n3 c3' B3 : Nat} {s : ByteArray} {x : List T3} (h : TS w base tT tF A n c hs xs) (hne : tT ≠ tF) (o3 : w.ownsRow B3 tF 3 (.slice A3 n3 c3') n3 (x.flatMap c3)) (hx : x.length = n3) (hB : base ≤ B3)
    (hnew : ∀ (i : Nat) (q : HT) (a : Addr), hs[i]? = some q → q.2.1 = some a → a.block < B3)
    (hw : w'.ownsRow base tT 2 (.slice A' (n + 1) c') (n + 1) ((hs ++ [(s, A3, n3, c3')]).flatMap cT)) (hg : w.grownBy w' (Value.slice A n c).ownBlock) : TS w' base tT tF A' (n + 1) c' (hs ++ [(s, A3, n3, c3')]) (xs ++ [(s, x)]) := by
  have hk : ∀ {b9 s9 n9 c9 : Nat} {A9 : Option Addr} {vs : List Value}, w.ownsRow b9 tF s9 (.slice A9 n9 c9) n9 vs → w'.ownsRow b9 tF s9 (.slice A9 n9 c9) n9 vs := fun {b9 s9 n9 c9 A9 vs} h9 => h9.kept hg (by
    cases A with
    | none => cases A9 <;> simp [Value.ownBlock]
    | some a =>
      cases A9 with
      | none => exact .inl rfl
      | some a9 => exact .inr (own_ty' h.o h9 hne))
  refine ⟨hw, by simp [h.l], by simp [h.x], ?_, ?_⟩
  · refine TLo.push (k := n) (fun k q x h1 h2 => ⟨(h.u k q x h1 h2).1, (h.u k q x h1 h2).2.1, hk (h.u k q x h1 h2).2.2⟩) h.l h.x rfl hx (own_mono (hk o3) hB)
  · refine TLd.snoc h.d h.l (fun i q a a' hi ha ha' => ?_)
    have h1 := hnew i q a hi ha
    have h2 := (o3.lt a'.block (by simp only at ha'; rw [ha']; rfl)).1
    omega
theorem TS.top (h : TS w base tT tF A n c hs xs) (i : Nat) (q : HT) (a : Addr) (hi : hs[i]? = some q) (ha : q.2.1 = some a) : base ≤ a.block ∧ a.block < w.heap.size := h.u.top (by rw [h.l, h.x]; exact Nat.le_refl _) i q a hi ha
end
/-- A row whose elements are of another type than a block lies elsewhere. -/
theorem own_blk_ne {w : World} {b e s n c g t : Nat} {A : Option Addr} {xs : List Value} {cs : Array Value} (h : w.ownsRow b e s (.slice A n c) n xs) (K : Blk w g t cs) (hne : e ≠ t) : (Value.slice A n c).ownBlock ≠ some g := by
  rcases h.2 with ⟨hv, _⟩ | ⟨g', cap, cur, hv, _, hh, _⟩
  · cases hv; simp [Value.ownBlock]
  · cases hv
    simp only [Value.ownBlock, ne_eq, Option.some.injEq]
    rintro rfl
    unfold Blk at K
    rw [hh] at K
    simp only [Option.some.injEq, Obj.cells.injEq] at K
    exact hne K.2.1
theorem Blk.grown {w w' : World} {b e s n c g t : Nat} {A : Option Addr} {xs : List Value} {cs : Array Value} (K : Blk w g t cs) (h : w.ownsRow b e s (.slice A n c) n xs) (hg : w.grownBy w' (Value.slice A n c).ownBlock) (hne : e ≠ t) : Blk w' g t cs :=
  (hg.block g K.lt (fun h9 => own_blk_ne h K hne h9.symm)).trans K
theorem TS.off {w : World} {base tT tF n c g t : Nat} {A : Option Addr} {hs : List HT} {xs : List TV} {cs : Array Value} (h : TS w base tT tF A n c hs xs) (K : Blk w g t cs) (h1 : tT ≠ t) (h2 : tF ≠ t) (o : Nat) (u : Value) : TS (w.setCell ⟨g, o, none⟩ u) base tT tF A n c hs xs :=
  ⟨ownsRow_setCell_other h.o (own_blk_ne h.o K h1) u, h.l, h.x, fun k q x e1 e2 => ⟨(h.u k q x e1 e2).1, (h.u k q x e1 e2).2.1, ownsRow_setCell_other (h.u k q x e1 e2).2.2 (own_blk_ne (h.u k q x e1 e2).2.2 K h2) u⟩, h.d⟩
set_option maxHeartbeats 1000000 in
theorem cloneFeat_any (A : Option Addr) (n c : Nat) (xs : List T3) (w : World) (hr : RdL c3 3 w w.heap.size A n c xs) (hpos : 0 < n) (hn : n ≤ 1048576) :
    Calls Try.prog 120 #[.slice A n c] w fun e w' => ∃ A' c', e = .returned (.slice A' n c') ∧ w'.ownsRow w.heap.size 79 3 (.slice A' n c') n (xs.flatMap c3) ∧ Below w.heap.size w w' := by
  obtain ⟨i0, hi, hz0, hz1, hz2⟩ := info_parts (show (Try.prog.info? 79).map (fun i => (i.zero, i.size, i.bytes)) = some (some (.agg #[.int .i64 0, .int .i64 0, .int .i64 0]), 3, 24) by kernel_rfl)
  obtain ⟨b, off, _, rfl, _⟩ := RdL.at_ (f := c3) c3_len hr hpos
  have HR := Lib.hid hr
  clear hr
  have hq : ∀ w : World, (binOp .eql 43 (.slice (some ⟨b, off, none⟩) n c) (.slice none 0 0)).run Try.prog w = .ok (.bool false) w := fun w => Lib.run_eql_slice_nil w _ _ _ _ _ 0 0 Try.underlying43
  go_enter Try.func120, Try.ntmps120
  go_wp2_with (at_builtin; with_reducible refine app_all _ c3_len one3 rfl (.tmp 5) (.tmp 6) 43 rfl w.heap.size 79 i0 _ Try.underlying43 hi hz0 hz1 hz2 rfl (by decide) (by decide) _ _ rfl ?_ (some ⟨b, off, none⟩) n c w.heap.size xs rfl ?_ hpos hn ?_ ?_)
  · simpa using World.ownsRow_lit (base := w.heap.size) (e := 79) (size := 3) w #[] 0 (Nat.le_refl _) (by simp [maxLen]) rfl
  · exact HR.out.alloc (Nat.le_refl _) _
  · simp
  · intro A' c' w' ho hb
    go_wp2
    go_ret
    exact ⟨A', c', rfl, ho, ((Below.refl _ _).alloc (Nat.le_refl _) _).trans hb⟩
set_option maxHeartbeats 4000000 in
theorem copyTempl_any (s : ByteArray) (A : Option Addr) (n c : Nat) (x : List T3) (w : World) (hr : RdL c3 3 w w.heap.size A n c x) (hpos : 0 < n) (hn : n ≤ 1048576) :
    Calls Try.prog 101 #[.agg #[.string s, .slice A n c]] w fun e w' => ∃ A' c', e = .returned (.agg #[.string s, .slice A' n c']) ∧ w'.ownsRow w.heap.size 79 3 (.slice A' n c') n (x.flatMap c3) ∧ Below w.heap.size w w' := by
  go_enter Try.func101, Try.ntmps101
  go_wp2_with fail
  have P0 : Blk ((w.alloc (.cells #[.string s, .slice A n c] 67)).alloc (.cells #[.string ⟨#[]⟩, .slice none 0 0] 67)) (w.heap.size) 67 #[.string s, .slice A n c] := by have hk := (Blk.new w 67 #[.string s, .slice A n c]).alloc (.cells #[.string ⟨#[]⟩, .slice none 0 0] 67); simpa using hk
  have R0 : Blk ((w.alloc (.cells #[.string s, .slice A n c] 67)).alloc (.cells #[.string ⟨#[]⟩, .slice none 0 0] 67)) (w.heap.size + 1) 67 #[.string ⟨#[]⟩, .slice none 0 0] := by have hk := Blk.new (w.alloc (.cells #[.string s, .slice A n c] 67)) 67 #[.string ⟨#[]⟩, .slice none 0 0]; simpa using hk
  have hbv : Below w.heap.size w ((w.alloc (.cells #[.string s, .slice A n c] 67)).alloc (.cells #[.string ⟨#[]⟩, .slice none 0 0] 67)) := (by repeat (first | exact Below.refl _ _ | assumption | refine Below.drew ?_ | refine below_drewN ?_ _ | refine Below.alloc ?_ (by first | omega | (simp <;> omega)) _ | refine Below.setCell ?_ (by first | omega | (simp <;> omega)) _))
  replace hr := hr.on hbv
  generalize ((w.alloc (.cells #[.string s, .slice A n c] 67)).alloc (.cells #[.string ⟨#[]⟩, .slice none 0 0] 67)) = v at *
  have HR := Lib.hid hr
  have zw := R0.lt
  have p0 := P0.cell 0
  have p1 := P0.cell 1
  simp only [List.getElem?_toArray, List.getElem?_cons_succ, List.getElem?_cons_zero] at p0 p1
  have f0 := R0.frozen 0
  have f1 := R0.frozen 1
  have r0 := R0.cell 0
  have r1 := R0.cell 1
  simp only [List.getElem?_toArray, List.getElem?_cons_succ, List.getElem?_cons_zero] at r0 r1
  clear hr
  go_region_law (go_simp; go_at_call 120; with_reducible refine (cloneFeat_any _ _ _ x _ (HR.out.on (Below.refl _ _).drew) hpos hn).mono ?_; rintro e w2 ⟨A2, c2, rfl, o2, hbw2⟩; obtain ⟨j0, j1, g0, g1, zr⟩ := (R0.drew.on hbw2).two; obtain ⟨k0, k1, l0, l1, zp⟩ := (P0.drew.on hbw2).two)
  all_goals
    have hB2 : Below w.heap.size w w2 := below_on hbw2 hbv.drew
    go_wp2
    refine bodyPost_ret (v := .agg #[.string s, .slice A2 n c2]) (by simp [results, Try.results101, go_sem, j0, j1]) rfl ⟨A2, c2, rfl, ?_, (by repeat (first | exact Below.refl _ _ | assumption | refine Below.drew ?_ | refine below_drewN ?_ _ | refine Below.alloc ?_ (by first | omega | (simp <;> omega)) _ | refine Below.setCell ?_ (by first | omega | (simp <;> omega)) _))⟩
    exact own_mono (ownsRow_setCell_below (ownsRow_setCell_below o2 (by simp only [hs_drew]; omega) _) (by simp only [hs_drew]; omega) _) (by simp only [hs_drew]; omega)
theorem featsOk_pos {m : Int} {x : List T3} (h : featsOk m x = true) : 0 < x.length := by
  unfold featsOk at h
  have h1 := (inB_iff.1 (Bool.and_eq_true_iff.1 h).2).1
  omega
theorem Blk.belowB {w w' : World} {B g : Nat} {t : TypeId} {cs : Array Value} (h : Blk w g t cs) (hb : Below B w w') (hg : g < B) : Blk w' g t cs := (hb.block g hg).trans h
theorem newsT {w : World} {g : Nat} {t : TypeId} {q : HT} (h : Blk w g t #[.string q.1, .slice q.2.1 q.2.2.1 q.2.2.2]) : ∀ j u, (cT q)[j]? = some u → w.cell? ⟨g, j, none⟩ = some u := by
  intro j u hu
  match j, hu with
  | 0, hu => cases hu; rw [h.cell 0]; rfl
  | 1, hu => cases hu; rw [h.cell 1]; rfl
theorem Try.infoTempl : (Try.prog.info? 67).map (fun i => (i.zero, i.size, i.bytes)) = some (some (.agg #[.string ⟨#[]⟩, .slice none 0 0]), 2, 40) := by kernel_rfl
set_option maxRecDepth 100000 in
set_option maxHeartbeats 8000000 in
theorem copyStore_any (z : Int) (A : Option Addr) (m cb : Nat) (ts : List TV) (w : World) (hr : TL w w.heap.size A m cb ts) (hm : totT ts ≤ 1048576) (V0 : storeB z ts = true) :
    Calls Try.prog 75 #[.agg #[.int .i64 z, .slice A m cb]] w fun e w' => ∃ (A' : Option Addr) (c' : Nat) (hs : List HT), e = .returned (.agg #[.int .i64 z, .slice A' m c']) ∧ TS w' w.heap.size 67 79 A' m c' hs ts ∧ Below w.heap.size w w' := by
  obtain ⟨i0, hi, hz0, hz1, hz2⟩ := info_parts Try.infoTempl
  have hl := Lib.hid hr.len
  have hm40 : m ≤ 40 := by have h := storeB_len V0; rw [hl.out] at h; exact h
  have HV := Lib.hid V0
  have HM := Lib.hid hm
  have HR := Lib.hid hr
  clear hm V0 hr
  go_enter Try.func75, Try.ntmps75
  go_wp2_with fail
  have P0 : Blk (((w.alloc (.cells #[.int .i64 z, .slice A m cb] 31)).alloc (.cells #[.int .i64 0, .slice none 0 0] 31)).alloc (.cells #[.int .i64 z, .slice none 0 0] 31)) (w.heap.size) 31 #[.int .i64 z, .slice A m cb] := by have hk := ((Blk.new w 31 #[.int .i64 z, .slice A m cb]).alloc (.cells #[.int .i64 0, .slice none 0 0] 31)).alloc (.cells #[.int .i64 z, .slice none 0 0] 31); simpa using hk
  have R0 : Blk (((w.alloc (.cells #[.int .i64 z, .slice A m cb] 31)).alloc (.cells #[.int .i64 0, .slice none 0 0] 31)).alloc (.cells #[.int .i64 z, .slice none 0 0] 31)) (w.heap.size + 1) 31 #[.int .i64 0, .slice none 0 0] := by have hk := (Blk.new (w.alloc (.cells #[.int .i64 z, .slice A m cb] 31)) 31 #[.int .i64 0, .slice none 0 0]).alloc (.cells #[.int .i64 z, .slice none 0 0] 31); simpa using hk
  have O0 : Blk (((w.alloc (.cells #[.int .i64 z, .slice A m cb] 31)).alloc (.cells #[.int .i64 0, .slice none 0 0] 31)).alloc (.cells #[.int .i64 z, .slice none 0 0] 31)) (w.heap.size + 1 + 1) 31 #[.int .i64 z, .slice none 0 0] := by have hk := Blk.new ((w.alloc (.cells #[.int .i64 z, .slice A m cb] 31)).alloc (.cells #[.int .i64 0, .slice none 0 0] 31)) 31 #[.int .i64 z, .slice none 0 0]; simpa using hk
  have hbv : Below w.heap.size w (((w.alloc (.cells #[.int .i64 z, .slice A m cb] 31)).alloc (.cells #[.int .i64 0, .slice none 0 0] 31)).alloc (.cells #[.int .i64 z, .slice none 0 0] 31)) := (by repeat (first | exact Below.refl _ _ | assumption | refine Below.drew ?_ | refine below_drewN ?_ _ | refine Below.alloc ?_ (by first | omega | (simp <;> omega)) _ | refine Below.setCell ?_ (by first | omega | (simp <;> omega)) _))
  generalize (((w.alloc (.cells #[.int .i64 z, .slice A m cb] 31)).alloc (.cells #[.int .i64 0, .slice none 0 0] 31)).alloc (.cells #[.int .i64 z, .slice none 0 0] 31)) = v at *
  have zv := O0.lt
  go_loopw [12] (fun i wr => ∃ (k c' : Nat) (A' : Option Addr) (hs : List HT), k ≤ m ∧ i = .int .i64 k ∧ Below w.heap.size w wr ∧ v.heap.size ≤ wr.heap.size ∧ Blk wr (w.heap.size + 1) 31 #[.int .i64 0, .slice none 0 0] ∧ Blk wr (w.heap.size + 1 + 1) 31 #[.int .i64 z, .slice A' k c'] ∧ Hid (TS wr v.heap.size 67 79 A' k c' hs (ts.take k))) (fun i _ => m - (intOf i).toNat)
  case atStart => exact ⟨0, 0, none, [], by omega, rfl, hbv, Nat.le_refl _, R0, O0, TS.nil _ _ _ _⟩
  case round =>
    clear O0 R0 P0
    obtain ⟨k, c', A', hs, hk, rfl, hb, hsz, R1, O1, hT⟩ := hrel
    have hsw := hb.size
    by_cases hlt : k < m
    · obtain ⟨b, off, s, B', n', cb', x, rfl, hbl, hx, q0, q1, hx3⟩ := (HR.out.on hb).at_ hlt
      have i1 : (k : Int) < (m : Int) := by omega
      have i2 : (0 : Int) ≤ (k : Int) := by omega
      have hxn : n' ≤ 1048576 := by have h := (totT_mem hx.out HM.out).2; rw [hx3.len] at h; omega
      have hpos : 0 < n' := by have h := featsOk_pos (storeB_at HV.out hx.out).2; rw [hx3.len] at h; exact h
      have hxl := Lib.hid hx3.len
      have HX := Lib.hid hx3
      clear hx3
      go_wp2_with fail
      clear q0 q1
      have KT := Blk.new (wr) 67 #[.string s, .slice B' n' cb']
      have hbwa : Below (wr).heap.size (wr) ((wr).alloc (.cells #[.string s, .slice B' n' cb'] 67)) := (Below.refl _ _).alloc (Nat.le_refl _) _
      replace O1 := O1.on hbwa
      replace R1 := R1.on hbwa
      generalize (wr).alloc (.cells #[.string s, .slice B' n' cb'] 67) = wa at *
      have hba := below_app hb hbwa hb.size
      have HXa := Lib.hid (HX.out.on hbwa)
      have HTa := Lib.hid (hT.out.on hbwa)
      have zk := KT.lt
      have zo := O1.lt
      have za := hbwa.size
      have p0 := KT.cell 0
      have p1 := KT.cell 1
      simp only [List.getElem?_toArray, List.getElem?_cons_succ, List.getElem?_cons_zero] at p0 p1
      have o0 := O1.cell 0
      have o1 := O1.cell 1
      simp only [List.getElem?_toArray, List.getElem?_cons_succ, List.getElem?_cons_zero] at o0 o1
      have f0 := O1.frozen 0
      have f1 := O1.frozen 1
      clear hb hbwa
      go_region_law (first | (refine step_grow _ cT_len oneT (by rfl) (.tmp 17) (.tmp 20) 29 (by rfl) v.heap.size 67 i0 _ Try.underlying29 hi hz0 hz1 hz2 rfl (by decide) (by decide) A' k c' hs (by rfl) ((own_below (own_below HTa.out.o ((Below.refl _ _).drew)) hbw3).alloc _) w3.heap.size 1 (s, A3, n', q3) (by rfl) (newsT (Blk.new w3 67 #[.string s, .slice A3 n' q3])) (by omega) (by have := hbw3.size; simp only [hs_drew] at this; simp; omega) ?_; intro A4 c4 w4 hw4 hg4; have hB4 : Below v.heap.size (w3.alloc (.cells #[.string s, .slice A3 n' q3] 67)) w4 := (Below.refl _ _).grown hg4 (by have := hbw3.size; simp only [hs_drew] at this; simp; omega) (fun q hq => (HTa.out.o.lt q hq).1); obtain ⟨j0, j1, g0, g1, zr⟩ := (((O1.drew.on hbw3).alloc (.cells #[.string s, .slice A3 n' q3] 67)).belowB hB4 zv).two) | (go_simp; go_at_call 101; with_reducible refine (copyTempl_any s _ _ _ x _ (HXa.out.on (Below.refl _ _).drew) hpos hxn).mono ?_; rintro e w3 ⟨A3, q3, rfl, o3, hbw3⟩; obtain ⟨u0, u1, y0, y1, zs⟩ := (O1.drew.on hbw3).two; obtain ⟨t0, t1, x0, x1, zt⟩ := (KT.drew.on hbw3).two))
      all_goals
        have hD : Below wa.heap.size wa w3 := below_app ((Below.refl _ _).drew) hbw3 (Nat.le_refl _)
        have zD := hD.size
        have hDa : Below w3.heap.size w3 (w3.alloc (.cells #[.string s, .slice A3 n' q3] 67)) := (Below.refl _ _).alloc (Nat.le_refl _) _
        have hT3 := Lib.hid ((HTa.out.on hD).on hDa)
        have hO3 := Lib.hid (o3.alloc (.cells #[.string s, .slice A3 n' q3] 67))
        have HB4 := Lib.hid hB4
        have HG4 := Lib.hid hg4
        have HW4 := Lib.hid hw4
        have O4 := Lib.hid (((O1.drew.on hbw3).alloc (.cells #[.string s, .slice A3 n' q3] 67)).belowB hB4 zv)
        clear hB4 hg4 hw4 o3 u0 u1 y0 y1 zs t0 t1 x0 x1 zt
        go_wp2
        have R4 := Lib.hid (((R1.drew.on hbw3).alloc (.cells #[.string s, .slice A3 n' q3] 67)).belowB HB4.out (by omega))
        have hP := TS.push hT3.out (by decide) hO3.out hxl.out (by simp only [hs_drew]; omega) (fun i q a hi9 ha9 => (HTa.out.top i q a hi9 ha9).2) HW4.out HG4.out
        have hb4 : Below w.heap.size w w4 := ((hba.trans (hD.mono (by omega))).alloc (by omega) _).trans (HB4.out.mono (by omega))
        have z4 := HB4.out.size
        refine ⟨⟨k + 1, c4, A4, hs ++ [(s, A3, n', q3)], by omega, by go_num, hb4.setCell (by simp only; omega) _, ?_, R4.out.far (by simp only; omega) _, O4.out.set_ 1 _, ?_⟩, by simp [intOf]; omega⟩
        · simp [World.setCell] at z4 ⊢; omega
        · unfold Hid
          rw [take_succ_of hx.out]
          exact hP.far (by simp only; omega) _
    · have hkm : k = m := by omega
      subst hkm
      have o0 := O1.cell 0
      have o1 := O1.cell 1
      simp only [List.getElem?_toArray, List.getElem?_cons_succ, List.getElem?_cons_zero] at o0 o1
      have f0 := R1.frozen 0
      have f1 := R1.frozen 1
      have r0 := R1.cell 0
      have r1 := R1.cell 1
      simp only [List.getElem?_toArray, List.getElem?_cons_succ, List.getElem?_cons_zero] at r0 r1
      have zo := O1.lt
      have zr := R1.lt
      go_wp2
      refine bodyPost_ret (v := .agg #[.int .i64 z, .slice A' k c']) (by simp [results, Try.results75, go_sem, r0, r1]) rfl ⟨A', c', hs, rfl, ?_, ?_⟩
      · have h9 := hT.out
        rw [List.take_of_length_le (by rw [hl.out]; exact Nat.le_refl _)] at h9
        exact ((h9.far (by simp only; omega) _).far (by simp only; omega) _).mono (by omega)
      · exact (hb.setCell (by simp only; omega) _).setCell (by simp only; omega) _
end Go.Proofs.Ytkldejbhhbgefaa
