/- mapInk, the program's, at two closures. -/
import Derived.Test.YtbfilhpgekgmbaaNq
import Derived.Test.YtbfilhpgekgmbaaBi
import Derived.Test.YtbfilhpgekgmbaaNs
import Derived.WalkSpells
import Derived.WalkLawsBesides
import Derived.Deep.RegionLaw
import Derived.Deep.RegionHeld3
import Derived.IntWalk
namespace Go.Proofs.Ytbfilhpgekgmbaa
open Go.ChangeShapes Go.WideShapes Go.ChangeAt Go.RowKit
set_option linter.unusedVariables false
set_option linter.unusedSimpArgs false
/-- append of one element inside a region that draws, with all that it leaves alone. -/
theorem step_growI {P : Program} (w : World) {ops : Array Oper} {o : Oper} {a : Act} {Q : Exit → Act → World → Prop} {K : Act → World → Prop} {E : Prop} {α : Type} {f : α → List Value} {S Y : Nat} (hf : ∀ x, (f x).length = S) (hone : ∀ x, ∀ u ∈ f x, u.oneCell' = true) (hgd : o.guard = none) (s x : Operand) (t : TypeId)
    (ho : o.op = .call { callee := .builtin .append, args := #[s, x], argTypes := #[t, t] }) (base : Nat) (e : TypeId) (i : TypeInfo) (z : Value)
    (h1 : P.underlying t = some (.slice e)) (hi : P.info? e = some i) (hz : i.zero = some z) (hs : i.size = S) (hy : i.bytes = Y) (hzs : z.cells.size = S) (hS : 0 < S) (hY : Y ≤ 4096)
    (A : Option Addr) (n c : Nat) (l : List α) (hv : a.eval s = .slice A n c) (hown : w.ownsRow base e S (.slice A n c) n (l.flatMap f))
    (g c' : Nat) (p : α) (hx : a.eval x = .slice (some ⟨g, 0, none⟩) 1 c') (hcell : ∀ j u, (f p)[j]? = some u → w.cell? ⟨g, j, none⟩ = some u) (hn : n ≤ 1048576) (hbase : base ≤ w.heap.size)
    (k : ∀ A' c' w', w'.ownsRow base e S (.slice A' (n + 1) c') (n + 1) ((l ++ [p]).flatMap f) → w.grownBy w' (Value.slice A n c).ownBlock → K (a.put o.dst (.slice A' (n + 1) c')) w') :
    if Region.wanted o (yielded ops a.tmps) = true then Oper.wp P o a w K Q else E := by
  have hw : Region.wanted o (yielded ops a.tmps) = true := by simp [Region.wanted, hgd]
  rw [if_pos hw]
  have hb : (n + 1) * Y ≤ 140737488355328 := Nat.le_trans (Nat.mul_le_mul (show n + 1 ≤ 1048577 by omega) hY) (by decide)
  have hnews : ∀ j u, (f p)[j]? = some u → w.cell? ((⟨g, 0, none⟩ : Addr).add j) = some u := by
    intro j u hu
    have h := hcell j u hu
    unfold Addr.add
    split
    · rename_i h0; subst h0; exact h
    · simpa using h
  obtain ⟨v', w', hrun, hown', hgrow, _⟩ := run_append_own (P := P) w base t o.type e i z S Y h1 hi hz hs hy hzs hS (.slice A n c) n (l.flatMap f) hown ⟨g, 0, none⟩ 1 c' (f p) (by rw [hf, Nat.one_mul]) hnews (hone p) (by unfold maxLen; omega) hb hbase
  unfold Oper.wp execOp
  simp only [ho, resolve, invoke, builtin, Sem.run_bind, Sem.run_pure, Result.andThen_ok, List.map_toArray, List.map_cons, List.map_nil, hv, hx, hrun]
  obtain ⟨A', c'', rfl, _, _⟩ := own_form hown'
  exact k A' c'' w' (by rw [flat_snoc]; exact hown') hgrow
/-- A row whose elements are of another type than a block lies elsewhere. -/
theorem own_blk_neI {w : World} {b e s n c g t : Nat} {A : Option Addr} {xs : List Value} {cs : Array Value} (h : w.ownsRow b e s (.slice A n c) n xs) (K : Blk w g t cs) (hne : e ≠ t) : (Value.slice A n c).ownBlock ≠ some g := by
  rcases h.2 with ⟨hv, _⟩ | ⟨g', cap, cur, hv, _, hh, _⟩
  · cases hv; simp [Value.ownBlock]
  · cases hv
    simp only [Value.ownBlock, ne_eq, Option.some.injEq]
    rintro rfl
    unfold Blk at K
    rw [hh] at K
    simp only [Option.some.injEq, Obj.cells.injEq] at K
    exact hne K.2.1
theorem Blk.grownI {w w' : World} {b e s n c g t : Nat} {A : Option Addr} {xs : List Value} {cs : Array Value} (K : Blk w g t cs) (h : w.ownsRow b e s (.slice A n c) n xs) (hg : w.grownBy w' (Value.slice A n c).ownBlock) (hne : e ≠ t) : Blk w' g t cs :=
  (hg.block g K.lt (fun h9 => own_blk_neI h K hne h9.symm)).trans K
theorem Blk.belowBI {w w' : World} {B g : Nat} {t : TypeId} {cs : Array Value} (h : Blk w g t cs) (hb : Below B w w') (hg : g < B) : Blk w' g t cs := (hb.block g hg).trans h
theorem Cel.belowB {w w' : World} {B g o : Nat} {v : Value} (h : Cel w g o v) (hb : Below B w w') (hg : g < B) (hB : B ≤ w.heap.size) : Cel w' g o v := ⟨by have := hb.size; have := h.1; omega, (hb.cell (p := ⟨g, o, none⟩) hg).trans h.2⟩
theorem Blk.one {w : World} {g : Nat} {t : TypeId} {a : Value} (h : Blk w g t #[a]) : w.cell? ⟨g, 0, none⟩ = some a ∧ w.frozen? ⟨g, 0, none⟩ = false ∧ g < w.heap.size := ⟨h.cell 0, h.frozen 0, h.lt⟩
theorem Blk.three {w : World} {g : Nat} {t : TypeId} {a b c : Value} (h : Blk w g t #[a, b, c]) : w.cell? ⟨g, 0, none⟩ = some a ∧ w.cell? ⟨g, 1, none⟩ = some b ∧ w.cell? ⟨g, 2, none⟩ = some c ∧ g < w.heap.size := ⟨h.cell 0, h.cell 1, h.cell 2, h.lt⟩
section
variable {P : Program} (w : World) {ops : Array Oper} {rest : List Oper} {o : Oper} {a : Act} {Q : Exit → Act → World → Prop}
theorem app_grow {α : Type} {f : α → List Value} {S Y : Nat} (hf : ∀ x, (f x).length = S) (hone : ∀ x, ∀ u ∈ f x, u.oneCell' = true) (hg : o.guard = none) (s x : Operand) (t : TypeId)
    (ho : o.op = .call { callee := .builtin .append, args := #[s, x], argTypes := #[t, t] }) (base : Nat) (e : TypeId) (i : TypeInfo) (z : Value)
    (h1 : P.underlying t = some (.slice e)) (hi : P.info? e = some i) (hz : i.zero = some z) (hs : i.size = S) (hy : i.bytes = Y) (hzs : z.cells.size = S) (hS : 0 < S) (hY : Y ≤ 4096)
    (A : Option Addr) (n c : Nat) (l : List α) (hv : a.eval s = .slice A n c) (hown : w.ownsRow base e S (.slice A n c) n (l.flatMap f))
    (g c' : Nat) (p : α) (hx : a.eval x = .slice (some ⟨g, 0, none⟩) 1 c') (hcell : ∀ j u, (f p)[j]? = some u → w.cell? ⟨g, j, none⟩ = some u) (hn : n ≤ 1048576) (hbase : base ≤ w.heap.size)
    (K : ∀ A' c' w', w'.ownsRow base e S (.slice A' (n + 1) c') (n + 1) ((l ++ [p]).flatMap f) → w.grownBy w' (Value.slice A n c).ownBlock → wpList P ops Q rest (a.put o.dst (.slice A' (n + 1) c')) w') :
    wpList P ops Q (o :: rest) a w := by
  have hb : (n + 1) * Y ≤ 140737488355328 := Nat.le_trans (Nat.mul_le_mul (show n + 1 ≤ 1048577 by omega) hY) (by decide)
  refine wpList_append_own w hg s x t ho base e i z S Y h1 hi hz hs hy hzs hS (.slice A n c) n (l.flatMap f) hv hown ⟨g, 0, none⟩ 1 c' (f p) hx (by rw [hf, Nat.one_mul]) ?_ (hone p) (by unfold maxLen; omega) hb hbase ?_
  · intro j u hu
    have h := hcell j u hu
    unfold Addr.add
    split
    · rename_i h0; subst h0; exact h
    · simpa using h
  · intro v' w' hown' hgrow _
    obtain ⟨A', c'', rfl, _, _⟩ := own_form hown'
    exact K A' c'' w' (by rw [flat_snoc]; exact hown') hgrow
end
def mpI (g : T3 → T3) (xs : List (List T3)) : List (List T3) := xs.map fun x => x.map g
theorem mpI_len (g : T3 → T3) (xs : List (List T3)) : (mpI g xs).length = xs.length := by simp [mpI]
theorem mpI_step {g : T3 → T3} {xs : List (List T3)} {k : Nat} {x : List T3} (h : xs[k]? = some x) : mpI g (xs.take (k + 1)) = mpI g (xs.take k) ++ [x.map g] := by unfold mpI; rw [take_succ_of h]; simp
theorem mp_step {g : T3 → T3} {x : List T3} {k : Nat} {p : T3} (h : x[k]? = some p) : (x.take (k + 1)).map g = (x.take k).map g ++ [g p] := by rw [take_succ_of h]; simp
theorem mpI_tot (g : T3 → T3) (xs : List (List T3)) : totL (mpI g xs) = totL xs := by unfold totL mpI; simp [Function.comp_def]
def stP (s b : Int) (p : T3) : T3 := (p.1 - nearD (s * (b - p.2.1)) 256, p.2.1, p.2.2)
def ftP (b : T4) (s side : Int) (p : T3) : T3 := (nearD ((p.1 - b.1) * side) s, nearD ((p.2.1 - b.2.1) * side) s, p.2.2)
theorem pt_in {x : List T3} (h : strokeB x = true) {k : Nat} {p : T3} (hp : x[k]? = some p) : (0 ≤ p.1 ∧ p.1 ≤ 4095) ∧ (0 ≤ p.2.1 ∧ p.2.1 ≤ 4095) := ⟨(pt_bd h).1 p (List.mem_of_getElem? hp), (pt_bd h).2 p (List.mem_of_getElem? hp)⟩
theorem mul_bd9 {a b : Int} (M N : Nat) (h0 : -(M : Int) ≤ a) (h1 : a ≤ M) (h2 : -(N : Int) ≤ b) (h3 : b ≤ N) : -((M * N : Nat) : Int) ≤ a * b ∧ a * b ≤ ((M * N : Nat) : Int) := mul_in M N h0 h1 h2 h3
set_option maxHeartbeats 2000000 in
theorem stP_any (s b x y t : Int) (w : World) (gs gb : Nat) (Ks : Cel w gs 0 (.int .i64 s)) (Kb : Cel w gb 0 (.int .i64 b)) (hs0 : -256 ≤ s) (hs1 : s ≤ 256) (hb0 : 0 ≤ b) (hb1 : b ≤ 4095) (hx0 : 0 ≤ x) (hx1 : x ≤ 4095) (hy0 : 0 ≤ y) (hy1 : y ≤ 4095) :
    Calls Try.prog 36 #[.agg #[.int .i64 x, .int .i64 y, .int .i64 t], .pointer (some ⟨gs, 0, none⟩), .pointer (some ⟨gb, 0, none⟩)] w fun e w' => e = .returned (.agg #[.int .i64 (stP s b (x, y, t)).1, .int .i64 (stP s b (x, y, t)).2.1, .int .i64 (stP s b (x, y, t)).2.2]) ∧ Below w.heap.size w w' := by
  obtain ⟨m0, m1⟩ := mul_bd9 (a := s) (b := b - y) 256 4095 (by omega) (by omega) (by omega) (by omega)
  obtain ⟨im, him⟩ : ∃ im, s * (b - y) = im := ⟨_, rfl⟩
  rw [him] at m0 m1
  obtain ⟨n0, n1⟩ := nearD_in (n := im) (d := 256) (B := 1048320) (by omega) (by omega) (by omega) (by omega)
  have HP : Hid (stP s b (x, y, t) = (x - nearD im 256, y, t)) := by show _ = _; unfold stP; simp only [him]
  have zs0 := Ks.lt
  have zb0 := Kb.lt
  have ne1 : ¬ gs = w.heap.size + 1 := by omega
  have ne1r : ¬ w.heap.size + 1 = gs := by omega
  have ne2 : ¬ gb = w.heap.size + 1 := by omega
  have ne2r : ¬ w.heap.size + 1 = gb := by omega
  go_enter Try.func36, Try.ntmps36
  go_wp2_with fail
  have P0 : Blk ((w.alloc (.cells #[.int .i64 x, .int .i64 y, .int .i64 t] 54)).alloc (.cells #[.int .i64 0, .int .i64 0, .int .i64 0] 54)) (w.heap.size) 54 #[.int .i64 x, .int .i64 y, .int .i64 t] := by have hk := (Blk.new w 54 #[.int .i64 x, .int .i64 y, .int .i64 t]).alloc (.cells #[.int .i64 0, .int .i64 0, .int .i64 0] 54); simpa using hk
  have J0 : Blk ((w.alloc (.cells #[.int .i64 x, .int .i64 y, .int .i64 t] 54)).alloc (.cells #[.int .i64 0, .int .i64 0, .int .i64 0] 54)) (w.heap.size + 1) 54 #[.int .i64 0, .int .i64 0, .int .i64 0] := by have hk := Blk.new (w.alloc (.cells #[.int .i64 x, .int .i64 y, .int .i64 t] 54)) 54 #[.int .i64 0, .int .i64 0, .int .i64 0]; simpa using hk
  have hbv : Below w.heap.size w ((w.alloc (.cells #[.int .i64 x, .int .i64 y, .int .i64 t] 54)).alloc (.cells #[.int .i64 0, .int .i64 0, .int .i64 0] 54)) := (by repeat (first | exact Below.refl _ _ | assumption | refine Below.drew ?_ | refine below_drewN ?_ _ | refine Below.alloc ?_ (by first | omega | (simp <;> omega)) _ | refine Below.setCell ?_ (by first | omega | (simp <;> omega)) _))
  replace Ks := Ks.on hbv
  replace Kb := Kb.on hbv
  generalize ((w.alloc (.cells #[.int .i64 x, .int .i64 y, .int .i64 t] 54)).alloc (.cells #[.int .i64 0, .int .i64 0, .int .i64 0] 54)) = v at *
  have e0 := Ks.cell
  have e1 := Kb.cell
  have zs := Ks.lt
  have zb := Kb.lt
  have p0 := P0.cell 0
  have p1 := P0.cell 1
  have p2 := P0.cell 2
  simp only [List.getElem?_toArray, List.getElem?_cons_succ, List.getElem?_cons_zero] at p0 p1 p2
  have j0 := J0.cell 0
  have j1 := J0.cell 1
  have j2 := J0.cell 2
  simp only [List.getElem?_toArray, List.getElem?_cons_succ, List.getElem?_cons_zero] at j0 j1 j2
  have f0 := J0.frozen 0
  have f1 := J0.frozen 1
  have f2 := J0.frozen 2
  have zj := J0.lt
  have o1 : IntKind.i64.wrap (b - y) = b - y := IntWalk.i64_in _ (by omega)
  have o2 : IntKind.i64.wrap (s * (b - y)) = im := by rw [him]; exact IntWalk.i64_in _ (by omega)
  have o3 : IntKind.i64.wrap (x - nearD im 256) = x - nearD im 256 := IntWalk.i64_in _ (by omega)
  have Z1 := Lib.hid (fun W => nearestDiv_any im 256 W (by omega) (by omega) (by omega) (by omega))
  clear him m0 m1 n0 n1
  go_wp2_with fail
  go_region_held3 (fun w' => w'.cell? ⟨w.heap.size, 0, none⟩ = some (.int .i64 x) ∧ w'.cell? ⟨w.heap.size, 1, none⟩ = some (.int .i64 y) ∧ w'.cell? ⟨w.heap.size, 2, none⟩ = some (.int .i64 t) ∧ w'.cell? ⟨gs, 0, none⟩ = some (.int .i64 s) ∧ w'.cell? ⟨gb, 0, none⟩ = some (.int .i64 b)) (first | exact ⟨p0, p1, p2, e0, e1⟩ | go_keep)
    (first | (go_at_call 37; with_reducible refine (Z1.out _).mono ?_; rintro e w7 ⟨rfl, rfl⟩))
  go_wp2
  rw [HP.out]
  exact bodyPost_ret (v := .agg #[.int .i64 (x - nearD im 256), .int .i64 y, .int .i64 t]) (by simp [results, Try.results36, go_sem, j0, j1, j2]) rfl ⟨rfl, (by repeat (first | exact Below.refl _ _ | assumption | refine Below.drew ?_ | refine below_drewN ?_ _ | refine Below.alloc ?_ (by first | omega | (simp <;> omega)) _ | refine Below.setCell ?_ (by first | omega | (simp <;> omega)) _))⟩
set_option maxHeartbeats 4000000 in
theorem ftP_any (b1 b2 b3 b4 s side x y t : Int) (w : World) (gk gd gs : Nat) (Kk : Blk w gk 64 #[.int .i64 b1, .int .i64 b2, .int .i64 b3, .int .i64 b4]) (Kd : Cel w gd 0 (.int .i64 side)) (Ks : Cel w gs 0 (.int .i64 s)) (hs0 : 1 ≤ s) (hs1 : s ≤ 4096) (hd0 : 1 ≤ side) (hd1 : side ≤ 4095) (hx0 : b1 ≤ x) (hx1 : x ≤ b1 + 4095) (hy0 : b2 ≤ y) (hy1 : y ≤ b2 + 4095) (hb1 : 0 ≤ b1) (hb2 : 0 ≤ b2) (hb3 : b1 ≤ 4095) (hb4 : b2 ≤ 4095) :
    Calls Try.prog 45 #[.agg #[.int .i64 x, .int .i64 y, .int .i64 t], .pointer (some ⟨gk, 0, none⟩), .pointer (some ⟨gd, 0, none⟩), .pointer (some ⟨gs, 0, none⟩)] w fun e w' => e = .returned (.agg #[.int .i64 (ftP (b1, b2, b3, b4) s side (x, y, t)).1, .int .i64 (ftP (b1, b2, b3, b4) s side (x, y, t)).2.1, .int .i64 (ftP (b1, b2, b3, b4) s side (x, y, t)).2.2]) ∧ Below w.heap.size w w' := by
  obtain ⟨m0, m1⟩ := mul_pos_le (a := x - b1) (b := side) 4095 4095 (by omega) (by omega) (by omega) (by omega)
  obtain ⟨k0, k1⟩ := mul_pos_le (a := y - b2) (b := side) 4095 4095 (by omega) (by omega) (by omega) (by omega)
  obtain ⟨ix, hix⟩ : ∃ im, (x - b1) * side = im := ⟨_, rfl⟩
  obtain ⟨iy, hiy⟩ : ∃ im, (y - b2) * side = im := ⟨_, rfl⟩
  rw [hix] at m0 m1
  rw [hiy] at k0 k1
  have HP : Hid (ftP (b1, b2, b3, b4) s side (x, y, t) = (nearD ix s, nearD iy s, t)) := by show _ = _; unfold ftP; simp only [hix, hiy]
  have zk0 := Kk.lt
  have zd0 := Kd.lt
  have zs0 := Ks.lt
  have ne0 : ¬ gk = w.heap.size + 1 := by omega
  have ne0r : ¬ w.heap.size + 1 = gk := by omega
  have ne1 : ¬ gs = w.heap.size + 1 := by omega
  have ne1r : ¬ w.heap.size + 1 = gs := by omega
  have ne2 : ¬ gd = w.heap.size + 1 := by omega
  have ne2r : ¬ w.heap.size + 1 = gd := by omega
  go_enter Try.func45, Try.ntmps45
  go_wp2_with fail
  have P0 : Blk ((w.alloc (.cells #[.int .i64 x, .int .i64 y, .int .i64 t] 54)).alloc (.cells #[.int .i64 0, .int .i64 0, .int .i64 0] 54)) (w.heap.size) 54 #[.int .i64 x, .int .i64 y, .int .i64 t] := by have hk := (Blk.new w 54 #[.int .i64 x, .int .i64 y, .int .i64 t]).alloc (.cells #[.int .i64 0, .int .i64 0, .int .i64 0] 54); simpa using hk
  have J0 : Blk ((w.alloc (.cells #[.int .i64 x, .int .i64 y, .int .i64 t] 54)).alloc (.cells #[.int .i64 0, .int .i64 0, .int .i64 0] 54)) (w.heap.size + 1) 54 #[.int .i64 0, .int .i64 0, .int .i64 0] := by have hk := Blk.new (w.alloc (.cells #[.int .i64 x, .int .i64 y, .int .i64 t] 54)) 54 #[.int .i64 0, .int .i64 0, .int .i64 0]; simpa using hk
  have hbv : Below w.heap.size w ((w.alloc (.cells #[.int .i64 x, .int .i64 y, .int .i64 t] 54)).alloc (.cells #[.int .i64 0, .int .i64 0, .int .i64 0] 54)) := (by repeat (first | exact Below.refl _ _ | assumption | refine Below.drew ?_ | refine below_drewN ?_ _ | refine Below.alloc ?_ (by first | omega | (simp <;> omega)) _ | refine Below.setCell ?_ (by first | omega | (simp <;> omega)) _))
  replace Ks := Ks.on hbv
  replace Kd := Kd.on hbv
  replace Kk := Kk.on hbv
  generalize ((w.alloc (.cells #[.int .i64 x, .int .i64 y, .int .i64 t] 54)).alloc (.cells #[.int .i64 0, .int .i64 0, .int .i64 0] 54)) = v at *
  have e0 := Ks.cell
  have e1 := Kd.cell
  have zs := Ks.lt
  have zd := Kd.lt
  obtain ⟨q0, q1, q2, q3, q4, q5, q6, q7, zk⟩ := Kk.four
  have p0 := P0.cell 0
  have p1 := P0.cell 1
  have p2 := P0.cell 2
  simp only [List.getElem?_toArray, List.getElem?_cons_succ, List.getElem?_cons_zero] at p0 p1 p2
  have j0 := J0.cell 0
  have j1 := J0.cell 1
  have j2 := J0.cell 2
  simp only [List.getElem?_toArray, List.getElem?_cons_succ, List.getElem?_cons_zero] at j0 j1 j2
  have f0 := J0.frozen 0
  have f1 := J0.frozen 1
  have f2 := J0.frozen 2
  have zj := J0.lt
  have o1 : IntKind.i64.wrap (x - b1) = x - b1 := IntWalk.i64_in _ (by omega)
  have o2 : IntKind.i64.wrap ((x - b1) * side) = ix := by rw [hix]; exact IntWalk.i64_in _ (by omega)
  have o3 : IntKind.i64.wrap (y - b2) = y - b2 := IntWalk.i64_in _ (by omega)
  have o4 : IntKind.i64.wrap ((y - b2) * side) = iy := by rw [hiy]; exact IntWalk.i64_in _ (by omega)
  have Z1 := Lib.hid (fun W => nearestDiv_any ix s W (by omega) (by omega) (by omega) (by omega))
  have Z2 := Lib.hid (fun W => nearestDiv_any iy s W (by omega) (by omega) (by omega) (by omega))
  clear hix hiy m0 m1 k0 k1 q4 q5 q6 q7
  go_wp2_with fail
  go_region_held3 (fun w' => w'.cell? ⟨w.heap.size, 0, none⟩ = some (.int .i64 x) ∧ w'.cell? ⟨w.heap.size, 1, none⟩ = some (.int .i64 y) ∧ w'.cell? ⟨w.heap.size, 2, none⟩ = some (.int .i64 t) ∧ w'.cell? ⟨gs, 0, none⟩ = some (.int .i64 s) ∧ w'.cell? ⟨gd, 0, none⟩ = some (.int .i64 side) ∧ w'.cell? ⟨gk, 0, none⟩ = some (.int .i64 b1) ∧ w'.cell? ⟨gk, 1, none⟩ = some (.int .i64 b2)) (first | exact ⟨p0, p1, p2, e0, e1, q0, q1⟩ | go_keep)
    (first | (go_at_call 37; (first | with_reducible refine (Z1.out _).mono ?_ | with_reducible refine (Z2.out _).mono ?_); rintro e w7 ⟨rfl, rfl⟩))
  go_wp2
  rw [HP.out]
  exact bodyPost_ret (v := .agg #[.int .i64 (nearD ix s), .int .i64 (nearD iy s), .int .i64 t]) (by simp [results, Try.results45, go_sem, j0, j1, j2]) rfl ⟨rfl, (by repeat (first | exact Below.refl _ _ | assumption | refine Below.drew ?_ | refine below_drewN ?_ _ | refine Below.alloc ?_ (by first | omega | (simp <;> omega)) _ | refine Below.setCell ?_ (by first | omega | (simp <;> omega)) _))⟩
theorem Try.infoStrokeI : (Try.prog.info? 52).map (fun i => (i.zero, i.size, i.bytes)) = some (some (.agg #[.slice none 0 0]), 1, 24) := by kernel_rfl
theorem Try.infoPointI : (Try.prog.info? 54).map (fun i => (i.zero, i.size, i.bytes)) = some (some (.agg #[.int .i64 0, .int .i64 0, .int .i64 0]), 3, 24) := by kernel_rfl
theorem Try.underStrokes : Try.prog.underlying 26 = some (.slice 52) := by kernel_rfl
theorem Try.underPoints : Try.prog.underlying 50 = some (.slice 54) := by kernel_rfl
theorem newsS {w : World} {g : Nat} {t : TypeId} {q : HS} (h : Blk w g t #[.slice q.1 q.2.1 q.2.2]) : ∀ j u, (cS q)[j]? = some u → w.cell? ⟨g, j, none⟩ = some u := by
  intro j u hu
  match j, hu with
  | 0, hu => cases hu; rw [h.cell 0]; rfl
set_option maxRecDepth 100000 in
set_option maxHeartbeats 16000000 in
theorem mapSt_any (A : Option Addr) (n c : Nat) (xs : List (List T3)) (w : World) (hr : NL w w.heap.size A n c xs) (hok : inkB xs = true) (s bs : Int) (gs gb : Nat) (Ks : Cel w gs 0 (.int .i64 s)) (Kb : Cel w gb 0 (.int .i64 bs)) (hs0 : -256 ≤ s) (hs1 : s ≤ 256) (hb0 : 0 ≤ bs) (hb1 : bs ≤ 4095) :
    Calls Try.prog 35 #[.agg #[.slice A n c], .func (.func 36) #[] #[.pointer (some ⟨gs, 0, none⟩), .pointer (some ⟨gb, 0, none⟩)]] w fun e w' => ∃ (A' : Option Addr) (c' : Nat) (hs : List HS), e = .returned (.agg #[.slice A' n c']) ∧ NS w' w.heap.size 52 54 A' n c' hs (mpI (stP s bs) xs) ∧ Below w.heap.size w w' := by
  obtain ⟨i0, hi, hz0, hz1, hz2⟩ := info_parts Try.infoStrokeI
  obtain ⟨i3, hi3, hy0, hy1, hy2⟩ := info_parts Try.infoPointI
  have hl := Lib.hid hr.len
  have h16 := inkB_len hok
  rw [hl.out] at h16
  have HR := Lib.hid hr
  have Hok := Lib.hid hok
  have KS := Lib.hid Ks
  have KB := Lib.hid Kb
  clear Ks Kb
  clear hr hok
  go_enter Try.func35, Try.ntmps35
  go_wp2_with fail
  have P0 : Blk (((w.alloc (.cells #[.slice A n c] 28)).alloc (.cells #[.slice none 0 0] 28)).alloc (.cells #[.slice none 0 0] 28)) (w.heap.size) 28 #[.slice A n c] := by have hk := ((Blk.new w 28 #[.slice A n c]).alloc (.cells #[.slice none 0 0] 28)).alloc (.cells #[.slice none 0 0] 28); simpa using hk
  have R0 : Blk (((w.alloc (.cells #[.slice A n c] 28)).alloc (.cells #[.slice none 0 0] 28)).alloc (.cells #[.slice none 0 0] 28)) (w.heap.size + 1) 28 #[.slice none 0 0] := by have hk := (Blk.new (w.alloc (.cells #[.slice A n c] 28)) 28 #[.slice none 0 0]).alloc (.cells #[.slice none 0 0] 28); simpa using hk
  have O0 : Blk (((w.alloc (.cells #[.slice A n c] 28)).alloc (.cells #[.slice none 0 0] 28)).alloc (.cells #[.slice none 0 0] 28)) (w.heap.size + 1 + 1) 28 #[.slice none 0 0] := by have hk := Blk.new ((w.alloc (.cells #[.slice A n c] 28)).alloc (.cells #[.slice none 0 0] 28)) 28 #[.slice none 0 0]; simpa using hk
  have hbv : Below w.heap.size w (((w.alloc (.cells #[.slice A n c] 28)).alloc (.cells #[.slice none 0 0] 28)).alloc (.cells #[.slice none 0 0] 28)) := (by repeat (first | exact Below.refl _ _ | assumption | refine Below.drew ?_ | refine below_drewN ?_ _ | refine Below.alloc ?_ (by first | omega | (simp <;> omega)) _ | refine Below.setCell ?_ (by first | omega | (simp <;> omega)) _))
  generalize (((w.alloc (.cells #[.slice A n c] 28)).alloc (.cells #[.slice none 0 0] 28)).alloc (.cells #[.slice none 0 0] 28)) = v at *
  have zv := O0.lt
  go_loopw [14] (fun i wr => ∃ (k c' : Nat) (A' : Option Addr) (hs : List HS), k ≤ n ∧ i = .int .i64 k ∧ Below w.heap.size w wr ∧ v.heap.size ≤ wr.heap.size ∧ Blk wr (w.heap.size + 1) 28 #[.slice none 0 0] ∧ Blk wr (w.heap.size + 1 + 1) 28 #[.slice A' k c'] ∧ Hid (NS wr v.heap.size 52 54 A' k c' hs (mpI (stP s bs) (xs.take k)))) (fun i _ => n - (intOf i).toNat)
  case atStart => exact ⟨0, 0, none, [], by omega, rfl, hbv, Nat.le_refl _, R0, O0, NS.nil _ _ _ _⟩
  case round =>
    clear O0 R0 P0
    obtain ⟨k, c', A', hs, hk, rfl, hb, hsz, R1, O1, hT⟩ := hrel
    have hsw := hb.size
    by_cases hlt : k < n
    · obtain ⟨b, off, B', n', cb', x, rfl, hbl, hx, q0, hx3⟩ := (HR.out.on hb).at_ hlt
      have i1 : (k : Int) < (n : Int) := by omega
      have i2 : (0 : Int) ≤ (k : Int) := by omega
      have hst := inkB_at Hok.out hx.out
      have hxl := Lib.hid hx3.len
      have hsl := strokeB_len hst
      rw [hxl.out] at hsl
      have HX := Lib.hid hx3
      clear hx3
      go_wp2_with fail
      clear q0
      have KT : Blk ((wr.alloc (.cells #[.slice B' n' cb'] 52)).alloc (.cells #[.slice none 0 0] 52)) (wr.heap.size) 52 #[.slice B' n' cb'] := by have hk := (Blk.new wr 52 #[.slice B' n' cb']).alloc (.cells #[.slice none 0 0] 52); simpa using hk
      have K8 : Blk ((wr.alloc (.cells #[.slice B' n' cb'] 52)).alloc (.cells #[.slice none 0 0] 52)) (wr.heap.size + 1) 52 #[.slice none 0 0] := by have hk := Blk.new (wr.alloc (.cells #[.slice B' n' cb'] 52)) 52 #[.slice none 0 0]; simpa using hk
      have hbwa : Below wr.heap.size wr ((wr.alloc (.cells #[.slice B' n' cb'] 52)).alloc (.cells #[.slice none 0 0] 52)) := (by repeat (first | exact Below.refl _ _ | assumption | refine Below.drew ?_ | refine below_drewN ?_ _ | refine Below.alloc ?_ (by first | omega | (simp <;> omega)) _ | refine Below.setCell ?_ (by first | omega | (simp <;> omega)) _))
      generalize ((wr.alloc (.cells #[.slice B' n' cb'] 52)).alloc (.cells #[.slice none 0 0] 52)) = wa at *
      obtain ⟨wo, rfl⟩ : ∃ wo, wo = wr := ⟨_, rfl⟩
      have z8 := K8.lt
      have za := hbwa.size
      go_loopw [21] (fun i wi => ∃ (m c3' : Nat) (A3 : Option Addr), m ≤ n' ∧ i = .int .i64 m ∧ Below wo.heap.size wo wi ∧ wa.heap.size ≤ wi.heap.size ∧ Blk wi (wo.heap.size + 1) 52 #[.slice A3 m c3'] ∧ Hid (wi.ownsRow wa.heap.size 54 3 (.slice A3 m c3') m (((x.take m).map (stP s bs)).flatMap c3))) (fun i _ => n' - (intOf i).toNat)
      case atStart => exact ⟨0, 0, none, by omega, rfl, hbwa, Nat.le_refl _, K8, World.ownsRow_nil _ _ _ _⟩
      case round =>
        clear K8 KT
        obtain ⟨wi, rfl⟩ : ∃ wi, wi = wr := ⟨_, rfl⟩
        obtain ⟨m, c3', A3, hm, rfl, hbi, hsi, K8, hO⟩ := hrel
        by_cases hlm : m < n'
        · obtain ⟨bb, of2, px, py, pt, rfl, hbl3, hp, r0, r1, r2⟩ := (HX.out.on hbi).at3 hlm
          have i3' : (m : Int) < (n' : Int) := by omega
          have i4' : (0 : Int) ≤ (m : Int) := by omega
          have hpb := pt_in hst hp.out
          obtain ⟨⟨g1, g2, g3⟩, hG⟩ : ∃ q, (stP s bs) (px, py, pt) = q := ⟨_, rfl⟩
          have HG := Lib.hid hG
          have HST : Hid ((x.take (m + 1)).map (stP s bs) = (x.take m).map (stP s bs) ++ [(g1, g2, g3)]) := by show _ = _; rw [mp_step hp.out, HG.out]
          clear hG
          go_wp2_with fail
          clear r0 r1 r2
          have KP := Blk.new (wi) 54 #[.int .i64 px, .int .i64 py, .int .i64 pt]
          have hbwj : Below (wi).heap.size (wi) ((wi).alloc (.cells #[.int .i64 px, .int .i64 py, .int .i64 pt] 54)) := (Below.refl _ _).alloc (Nat.le_refl _) _
          replace K8 := K8.on hbwj
          generalize (wi).alloc (.cells #[.int .i64 px, .int .i64 py, .int .i64 pt] 54) = wj at *
          have HO := Lib.hid (own_below hO.out hbwj)
          have hbw := Lib.hid (below_app (below_app hb hbi hsw) hbwj (by have := hbi.size; omega))
          have zj := hbwj.size
          obtain ⟨p0, p1, p2, zp⟩ := KP.three
          obtain ⟨k0, l0, zk⟩ := K8.one
          clear hO
          go_region_law (first | (refine step_growI _ c3_len one3 (by rfl) (.tmp 26) (.tmp 30) 50 (by rfl) wa.heap.size 54 i3 _ Try.underPoints hi3 hy0 hy1 hy2 rfl (by decide) (by decide) A3 m c3' ((x.take m).map (stP s bs)) (by rfl) ((own_below (own_below HO.out ((Below.refl _ _).drew)) hbw3).alloc _) w3.heap.size 1 (g1, g2, g3) (by rfl) (news3 (Cell3.new w3 _ _ _ _)) (by omega) (by have := hbw3.size; simp only [hs_drew] at this; simp; omega) ?_; intro A4 c4 w4 hw4 hg4; have hB4 : Below wa.heap.size (w3.alloc (.cells #[.int .i64 g1, .int .i64 g2, .int .i64 g3] 54)) w4 := (Below.refl _ _).grown hg4 (by have := hbw3.size; simp only [hs_drew] at this; simp; omega) (fun q hq => (HO.out.lt q hq).1); obtain ⟨j0, f0, zr⟩ := (((K8.drew.on hbw3).alloc (.cells #[.int .i64 g1, .int .i64 g2, .int .i64 g3] 54)).belowBI hB4 z8).one) | (go_simp; go_at_call 36; with_reducible refine (stP_any s bs px py pt _ gs gb (KS.out.on hbw.out.drew) (KB.out.on hbw.out.drew) hs0 hs1 hb0 hb1 hpb.1.1 hpb.1.2 hpb.2.1 hpb.2.2).mono ?_; rw [HG.out]; rintro e w3 ⟨rfl, hbw3⟩; obtain ⟨u0, y0, zs9⟩ := (K8.drew.on hbw3).one; obtain ⟨t0, t1, t2, zt⟩ := (KP.drew.on hbw3).three))
          all_goals
            have hD : Below wj.heap.size wj w3 := below_app ((Below.refl _ _).drew) hbw3 (Nat.le_refl _)
            have zD := hD.size
            have K4 := Lib.hid (((K8.drew.on hbw3).alloc (.cells #[.int .i64 g1, .int .i64 g2, .int .i64 g3] 54)).belowBI hB4 z8)
            have HB4 := Lib.hid hB4
            have HW4 := Lib.hid hw4
            have hbj := Lib.hid (below_app hbi hbwj hbi.size)
            clear hB4 hw4 hg4
            go_wp2
            have hb4 : Below wo.heap.size wo w4 := ((hbj.out.trans (hD.mono (by omega))).alloc (by omega) _).trans (HB4.out.mono (by omega))
            have z4 := HB4.out.size
            refine ⟨⟨m + 1, c4, A4, by omega, by go_num, hb4.setCell (by simp only; omega) _, ?_, K4.out.set_ 0 _, ?_⟩, by simp [intOf]; omega⟩
            · simp [World.setCell] at z4 ⊢; omega
            · unfold Hid; rw [HST.out]; exact ownsRow_setCell_below HW4.out (by simp only; omega) _
        · have hmn : m = n' := by omega
          subst hmn
          have O1i := O1.on hbi
          have R1i := R1.on hbi
          have HTi := Lib.hid (hT.out.on hbi)
          have hbi2 := below_app hb hbi hsw
          have HTP := Lib.hid (fun i q a hi9 ha9 => (hT.out.top i q a hi9 ha9).2)
          have HXT : Hid (mpI (stP s bs) (xs.take (k + 1)) = mpI (stP s bs) (xs.take k) ++ [x.map (stP s bs)]) := mpI_step hx.out
          have HXL : Hid ((x.take m).map (stP s bs) = x.map (stP s bs)) := by show _ = _; rw [List.take_of_length_le (by rw [hxl.out]; exact Nat.le_refl _)]
          rw [HXL.out] at hO
          have zi := hbi2.size
          obtain ⟨o0, f0, zo⟩ := O1i.one
          obtain ⟨k0, l0, zk⟩ := K8.one
          clear HX hb hbi
          go_wp2_with (at_builtin; with_reducible refine app_grow _ cS_len oneS rfl (.tmp 35) (.tmp 37) 26 rfl v.heap.size 52 i0 _ Try.underStrokes hi hz0 hz1 hz2 rfl (by decide) (by decide) A' k c' hs rfl (HTi.out.o.alloc _) wi.heap.size 1 (A3, m, c3') rfl ?_ ?_ ?_ ?_)
          all_goals first | omega | (intro A5 c5 w5 (hw5 : World.ownsRow _ _ _ _ _ _ _) hg5) | (exact newsS (Blk.new wi 52 #[.slice A3 m c3'])) | (simp; omega)
          have hB5 : Below v.heap.size (wi.alloc (.cells #[.slice A3 m c3'] 52)) w5 := (Below.refl _ _).grown hg5 (by simp; omega) (fun q hq => (HTi.out.o.lt q hq).1)
          have O5 := Lib.hid ((O1i.alloc (.cells #[.slice A3 m c3'] 52)).belowBI hB5 zv)
          have R5 := Lib.hid ((R1i.alloc (.cells #[.slice A3 m c3'] 52)).belowBI hB5 (by omega))
          have hP := Lib.hid (NS.push (HTi.out.on ((Below.refl _ _).alloc (Nat.le_refl _) _)) (by decide) (hO.out.alloc (.cells #[.slice A3 m c3'] 52)) (by rw [List.length_map]; exact hxl.out) (by omega) (fun i q a hi9 ha9 => by have := HTP.out i q a hi9 ha9; omega) (by rw [flat_snoc]; exact hw5) hg5)
          have hb5 : Below w.heap.size w w5 := (hbi2.alloc (by omega) _).trans (hB5.mono (by omega))
          have z5 := hB5.size
          simp only [World.size_alloc] at z5
          obtain ⟨j0, g0, zr⟩ := O5.out.one
          clear o0 f0 hB5 hw5 hg5 O1i R1i HTi
          go_wp2
          refine ⟨⟨k + 1, c5, A5, hs ++ [(A3, m, c3')], by omega, by go_num, hb5.setCell (by simp only; omega) _, ?_, R5.out.far (by simp only; omega) _, O5.out.set_ 0 _, ?_⟩, by simp [intOf]; omega⟩
          · simp [World.setCell]; omega
          · unfold Hid
            rw [HXT.out]
            exact hP.out.far (by simp only; omega) _
    · have hkm : k = n := by omega
      subst hkm
      obtain ⟨o0, _, zo⟩ := O1.one
      obtain ⟨r0, f0, zr⟩ := R1.one
      go_wp2
      refine bodyPost_ret (v := .agg #[.slice A' k c']) (by simp [results, Try.results35, go_sem, r0]) rfl ⟨A', c', hs, rfl, ?_, ?_⟩
      · have h9 := hT.out
        rw [List.take_of_length_le (by rw [hl.out]; exact Nat.le_refl _)] at h9
        exact (h9.far (by simp only; omega) _).mono (by omega)
      · exact hb.setCell (by simp only; omega) _
set_option maxRecDepth 100000 in
set_option maxHeartbeats 16000000 in
theorem mapFt_any (A : Option Addr) (n c : Nat) (xs : List (List T3)) (w : World) (hr : NL w w.heap.size A n c xs) (hok : inkB xs = true) (b1 b2 b3 b4 s side : Int) (gk gd gs : Nat) (Kk : Blk w gk 64 #[.int .i64 b1, .int .i64 b2, .int .i64 b3, .int .i64 b4]) (Kd : Cel w gd 0 (.int .i64 side)) (Ks : Cel w gs 0 (.int .i64 s)) (hs0 : 1 ≤ s) (hs1 : s ≤ 4096) (hd0 : 1 ≤ side) (hd1 : side ≤ 4095) (hbo : okB (b1, b2, b3, b4)) (hpt : ∀ (k : Nat) (x : List T3) (p : T3), xs[k]? = some x → p ∈ x → inBx p (b1, b2, b3, b4)) :
    Calls Try.prog 35 #[.agg #[.slice A n c], .func (.func 45) #[] #[.pointer (some ⟨gk, 0, none⟩), .pointer (some ⟨gd, 0, none⟩), .pointer (some ⟨gs, 0, none⟩)]] w fun e w' => ∃ (A' : Option Addr) (c' : Nat) (hs : List HS), e = .returned (.agg #[.slice A' n c']) ∧ NS w' w.heap.size 52 54 A' n c' hs (mpI (ftP (b1, b2, b3, b4) s side) xs) ∧ Below w.heap.size w w' := by
  obtain ⟨i0, hi, hz0, hz1, hz2⟩ := info_parts Try.infoStrokeI
  obtain ⟨i3, hi3, hy0, hy1, hy2⟩ := info_parts Try.infoPointI
  have hl := Lib.hid hr.len
  have h16 := inkB_len hok
  rw [hl.out] at h16
  have HR := Lib.hid hr
  have Hok := Lib.hid hok
  have KS := Lib.hid Ks
  have KD := Lib.hid Kd
  have KK := Lib.hid Kk
  have HPT := Lib.hid hpt
  unfold okB at hbo
  dsimp only at hbo
  clear Ks Kd Kk hpt
  clear hr hok
  go_enter Try.func35, Try.ntmps35
  go_wp2_with fail
  have P0 : Blk (((w.alloc (.cells #[.slice A n c] 28)).alloc (.cells #[.slice none 0 0] 28)).alloc (.cells #[.slice none 0 0] 28)) (w.heap.size) 28 #[.slice A n c] := by have hk := ((Blk.new w 28 #[.slice A n c]).alloc (.cells #[.slice none 0 0] 28)).alloc (.cells #[.slice none 0 0] 28); simpa using hk
  have R0 : Blk (((w.alloc (.cells #[.slice A n c] 28)).alloc (.cells #[.slice none 0 0] 28)).alloc (.cells #[.slice none 0 0] 28)) (w.heap.size + 1) 28 #[.slice none 0 0] := by have hk := (Blk.new (w.alloc (.cells #[.slice A n c] 28)) 28 #[.slice none 0 0]).alloc (.cells #[.slice none 0 0] 28); simpa using hk
  have O0 : Blk (((w.alloc (.cells #[.slice A n c] 28)).alloc (.cells #[.slice none 0 0] 28)).alloc (.cells #[.slice none 0 0] 28)) (w.heap.size + 1 + 1) 28 #[.slice none 0 0] := by have hk := Blk.new ((w.alloc (.cells #[.slice A n c] 28)).alloc (.cells #[.slice none 0 0] 28)) 28 #[.slice none 0 0]; simpa using hk
  have hbv : Below w.heap.size w (((w.alloc (.cells #[.slice A n c] 28)).alloc (.cells #[.slice none 0 0] 28)).alloc (.cells #[.slice none 0 0] 28)) := (by repeat (first | exact Below.refl _ _ | assumption | refine Below.drew ?_ | refine below_drewN ?_ _ | refine Below.alloc ?_ (by first | omega | (simp <;> omega)) _ | refine Below.setCell ?_ (by first | omega | (simp <;> omega)) _))
  generalize (((w.alloc (.cells #[.slice A n c] 28)).alloc (.cells #[.slice none 0 0] 28)).alloc (.cells #[.slice none 0 0] 28)) = v at *
  have zv := O0.lt
  go_loopw [14] (fun i wr => ∃ (k c' : Nat) (A' : Option Addr) (hs : List HS), k ≤ n ∧ i = .int .i64 k ∧ Below w.heap.size w wr ∧ v.heap.size ≤ wr.heap.size ∧ Blk wr (w.heap.size + 1) 28 #[.slice none 0 0] ∧ Blk wr (w.heap.size + 1 + 1) 28 #[.slice A' k c'] ∧ Hid (NS wr v.heap.size 52 54 A' k c' hs (mpI (ftP (b1, b2, b3, b4) s side) (xs.take k)))) (fun i _ => n - (intOf i).toNat)
  case atStart => exact ⟨0, 0, none, [], by omega, rfl, hbv, Nat.le_refl _, R0, O0, NS.nil _ _ _ _⟩
  case round =>
    clear O0 R0 P0
    obtain ⟨k, c', A', hs, hk, rfl, hb, hsz, R1, O1, hT⟩ := hrel
    have hsw := hb.size
    by_cases hlt : k < n
    · obtain ⟨b, off, B', n', cb', x, rfl, hbl, hx, q0, hx3⟩ := (HR.out.on hb).at_ hlt
      have i1 : (k : Int) < (n : Int) := by omega
      have i2 : (0 : Int) ≤ (k : Int) := by omega
      have hst := inkB_at Hok.out hx.out
      have hxl := Lib.hid hx3.len
      have hsl := strokeB_len hst
      rw [hxl.out] at hsl
      have HX := Lib.hid hx3
      clear hx3
      go_wp2_with fail
      clear q0
      have KT : Blk ((wr.alloc (.cells #[.slice B' n' cb'] 52)).alloc (.cells #[.slice none 0 0] 52)) (wr.heap.size) 52 #[.slice B' n' cb'] := by have hk := (Blk.new wr 52 #[.slice B' n' cb']).alloc (.cells #[.slice none 0 0] 52); simpa using hk
      have K8 : Blk ((wr.alloc (.cells #[.slice B' n' cb'] 52)).alloc (.cells #[.slice none 0 0] 52)) (wr.heap.size + 1) 52 #[.slice none 0 0] := by have hk := Blk.new (wr.alloc (.cells #[.slice B' n' cb'] 52)) 52 #[.slice none 0 0]; simpa using hk
      have hbwa : Below wr.heap.size wr ((wr.alloc (.cells #[.slice B' n' cb'] 52)).alloc (.cells #[.slice none 0 0] 52)) := (by repeat (first | exact Below.refl _ _ | assumption | refine Below.drew ?_ | refine below_drewN ?_ _ | refine Below.alloc ?_ (by first | omega | (simp <;> omega)) _ | refine Below.setCell ?_ (by first | omega | (simp <;> omega)) _))
      generalize ((wr.alloc (.cells #[.slice B' n' cb'] 52)).alloc (.cells #[.slice none 0 0] 52)) = wa at *
      obtain ⟨wo, rfl⟩ : ∃ wo, wo = wr := ⟨_, rfl⟩
      have z8 := K8.lt
      have za := hbwa.size
      go_loopw [21] (fun i wi => ∃ (m c3' : Nat) (A3 : Option Addr), m ≤ n' ∧ i = .int .i64 m ∧ Below wo.heap.size wo wi ∧ wa.heap.size ≤ wi.heap.size ∧ Blk wi (wo.heap.size + 1) 52 #[.slice A3 m c3'] ∧ Hid (wi.ownsRow wa.heap.size 54 3 (.slice A3 m c3') m (((x.take m).map (ftP (b1, b2, b3, b4) s side)).flatMap c3))) (fun i _ => n' - (intOf i).toNat)
      case atStart => exact ⟨0, 0, none, by omega, rfl, hbwa, Nat.le_refl _, K8, World.ownsRow_nil _ _ _ _⟩
      case round =>
        clear K8 KT
        obtain ⟨wi, rfl⟩ : ∃ wi, wi = wr := ⟨_, rfl⟩
        obtain ⟨m, c3', A3, hm, rfl, hbi, hsi, K8, hO⟩ := hrel
        by_cases hlm : m < n'
        · obtain ⟨bb, of2, px, py, pt, rfl, hbl3, hp, r0, r1, r2⟩ := (HX.out.on hbi).at3 hlm
          have i3' : (m : Int) < (n' : Int) := by omega
          have i4' : (0 : Int) ≤ (m : Int) := by omega
          have hpb := HPT.out k x (px, py, pt) hx.out (List.mem_of_getElem? hp.out)
          unfold inBx at hpb
          dsimp only at hpb
          obtain ⟨⟨g1, g2, g3⟩, hG⟩ : ∃ q, (ftP (b1, b2, b3, b4) s side) (px, py, pt) = q := ⟨_, rfl⟩
          have HG := Lib.hid hG
          have HST : Hid ((x.take (m + 1)).map (ftP (b1, b2, b3, b4) s side) = (x.take m).map (ftP (b1, b2, b3, b4) s side) ++ [(g1, g2, g3)]) := by show _ = _; rw [mp_step hp.out, HG.out]
          clear hG
          go_wp2_with fail
          clear r0 r1 r2
          have KP := Blk.new (wi) 54 #[.int .i64 px, .int .i64 py, .int .i64 pt]
          have hbwj : Below (wi).heap.size (wi) ((wi).alloc (.cells #[.int .i64 px, .int .i64 py, .int .i64 pt] 54)) := (Below.refl _ _).alloc (Nat.le_refl _) _
          replace K8 := K8.on hbwj
          generalize (wi).alloc (.cells #[.int .i64 px, .int .i64 py, .int .i64 pt] 54) = wj at *
          have HO := Lib.hid (own_below hO.out hbwj)
          have hbw := Lib.hid (below_app (below_app hb hbi hsw) hbwj (by have := hbi.size; omega))
          have zj := hbwj.size
          obtain ⟨p0, p1, p2, zp⟩ := KP.three
          obtain ⟨k0, l0, zk⟩ := K8.one
          clear hO
          go_region_law (first | (refine step_growI _ c3_len one3 (by rfl) (.tmp 26) (.tmp 30) 50 (by rfl) wa.heap.size 54 i3 _ Try.underPoints hi3 hy0 hy1 hy2 rfl (by decide) (by decide) A3 m c3' ((x.take m).map (ftP (b1, b2, b3, b4) s side)) (by rfl) ((own_below (own_below HO.out ((Below.refl _ _).drew)) hbw3).alloc _) w3.heap.size 1 (g1, g2, g3) (by rfl) (news3 (Cell3.new w3 _ _ _ _)) (by omega) (by have := hbw3.size; simp only [hs_drew] at this; simp; omega) ?_; intro A4 c4 w4 hw4 hg4; have hB4 : Below wa.heap.size (w3.alloc (.cells #[.int .i64 g1, .int .i64 g2, .int .i64 g3] 54)) w4 := (Below.refl _ _).grown hg4 (by have := hbw3.size; simp only [hs_drew] at this; simp; omega) (fun q hq => (HO.out.lt q hq).1); obtain ⟨j0, f0, zr⟩ := (((K8.drew.on hbw3).alloc (.cells #[.int .i64 g1, .int .i64 g2, .int .i64 g3] 54)).belowBI hB4 z8).one) | (go_simp; go_at_call 45; with_reducible refine (ftP_any b1 b2 b3 b4 s side px py pt _ gk gd gs (KK.out.on hbw.out.drew) (KD.out.on hbw.out.drew) (KS.out.on hbw.out.drew) hs0 hs1 hd0 hd1 (by omega) (by omega) (by omega) (by omega) (by omega) (by omega) (by omega) (by omega)).mono ?_; rw [HG.out]; rintro e w3 ⟨rfl, hbw3⟩; obtain ⟨u0, y0, zs9⟩ := (K8.drew.on hbw3).one; obtain ⟨t0, t1, t2, zt⟩ := (KP.drew.on hbw3).three))
          all_goals
            have hD : Below wj.heap.size wj w3 := below_app ((Below.refl _ _).drew) hbw3 (Nat.le_refl _)
            have zD := hD.size
            have K4 := Lib.hid (((K8.drew.on hbw3).alloc (.cells #[.int .i64 g1, .int .i64 g2, .int .i64 g3] 54)).belowBI hB4 z8)
            have HB4 := Lib.hid hB4
            have HW4 := Lib.hid hw4
            have hbj := Lib.hid (below_app hbi hbwj hbi.size)
            clear hB4 hw4 hg4
            go_wp2
            have hb4 : Below wo.heap.size wo w4 := ((hbj.out.trans (hD.mono (by omega))).alloc (by omega) _).trans (HB4.out.mono (by omega))
            have z4 := HB4.out.size
            refine ⟨⟨m + 1, c4, A4, by omega, by go_num, hb4.setCell (by simp only; omega) _, ?_, K4.out.set_ 0 _, ?_⟩, by simp [intOf]; omega⟩
            · simp [World.setCell] at z4 ⊢; omega
            · unfold Hid; rw [HST.out]; exact ownsRow_setCell_below HW4.out (by simp only; omega) _
        · have hmn : m = n' := by omega
          subst hmn
          have O1i := O1.on hbi
          have R1i := R1.on hbi
          have HTi := Lib.hid (hT.out.on hbi)
          have hbi2 := below_app hb hbi hsw
          have HTP := Lib.hid (fun i q a hi9 ha9 => (hT.out.top i q a hi9 ha9).2)
          have HXT : Hid (mpI (ftP (b1, b2, b3, b4) s side) (xs.take (k + 1)) = mpI (ftP (b1, b2, b3, b4) s side) (xs.take k) ++ [x.map (ftP (b1, b2, b3, b4) s side)]) := mpI_step hx.out
          have HXL : Hid ((x.take m).map (ftP (b1, b2, b3, b4) s side) = x.map (ftP (b1, b2, b3, b4) s side)) := by show _ = _; rw [List.take_of_length_le (by rw [hxl.out]; exact Nat.le_refl _)]
          rw [HXL.out] at hO
          have zi := hbi2.size
          obtain ⟨o0, f0, zo⟩ := O1i.one
          obtain ⟨k0, l0, zk⟩ := K8.one
          clear HX hb hbi
          go_wp2_with (at_builtin; with_reducible refine app_grow _ cS_len oneS rfl (.tmp 35) (.tmp 37) 26 rfl v.heap.size 52 i0 _ Try.underStrokes hi hz0 hz1 hz2 rfl (by decide) (by decide) A' k c' hs rfl (HTi.out.o.alloc _) wi.heap.size 1 (A3, m, c3') rfl ?_ ?_ ?_ ?_)
          all_goals first | omega | (intro A5 c5 w5 (hw5 : World.ownsRow _ _ _ _ _ _ _) hg5) | (exact newsS (Blk.new wi 52 #[.slice A3 m c3'])) | (simp; omega)
          have hB5 : Below v.heap.size (wi.alloc (.cells #[.slice A3 m c3'] 52)) w5 := (Below.refl _ _).grown hg5 (by simp; omega) (fun q hq => (HTi.out.o.lt q hq).1)
          have O5 := Lib.hid ((O1i.alloc (.cells #[.slice A3 m c3'] 52)).belowBI hB5 zv)
          have R5 := Lib.hid ((R1i.alloc (.cells #[.slice A3 m c3'] 52)).belowBI hB5 (by omega))
          have hP := Lib.hid (NS.push (HTi.out.on ((Below.refl _ _).alloc (Nat.le_refl _) _)) (by decide) (hO.out.alloc (.cells #[.slice A3 m c3'] 52)) (by rw [List.length_map]; exact hxl.out) (by omega) (fun i q a hi9 ha9 => by have := HTP.out i q a hi9 ha9; omega) (by rw [flat_snoc]; exact hw5) hg5)
          have hb5 : Below w.heap.size w w5 := (hbi2.alloc (by omega) _).trans (hB5.mono (by omega))
          have z5 := hB5.size
          simp only [World.size_alloc] at z5
          obtain ⟨j0, g0, zr⟩ := O5.out.one
          clear o0 f0 hB5 hw5 hg5 O1i R1i HTi
          go_wp2
          refine ⟨⟨k + 1, c5, A5, hs ++ [(A3, m, c3')], by omega, by go_num, hb5.setCell (by simp only; omega) _, ?_, R5.out.far (by simp only; omega) _, O5.out.set_ 0 _, ?_⟩, by simp [intOf]; omega⟩
          · simp [World.setCell]; omega
          · unfold Hid
            rw [HXT.out]
            exact hP.out.far (by simp only; omega) _
    · have hkm : k = n := by omega
      subst hkm
      obtain ⟨o0, _, zo⟩ := O1.one
      obtain ⟨r0, f0, zr⟩ := R1.one
      go_wp2
      refine bodyPost_ret (v := .agg #[.slice A' k c']) (by simp [results, Try.results35, go_sem, r0]) rfl ⟨A', c', hs, rfl, ?_, ?_⟩
      · have h9 := hT.out
        rw [List.take_of_length_le (by rw [hl.out]; exact Nat.le_refl _)] at h9
        exact (h9.far (by simp only; omega) _).mono (by omega)
      · exact hb.setCell (by simp only; omega) _
end Go.Proofs.Ytbfilhpgekgmbaa
