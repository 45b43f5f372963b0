/- The vote: the program's side. -/
import Derived.Test.YtkldejbhhbgefaaVb
import Derived.Test.YtkldejbhhbgefaaNr
import Derived.Test.YtkldejbhhbgefaaCp
namespace Go.Proofs.Ytkldejbhhbgefaa
open Go.ChangeShapes Go.WideShapes Go.ChangeAt Go.RowKit
set_option linter.unusedVariables false
set_option linter.unusedSimpArgs false
def lbT (ts : List TV) (i : Int) : SL8 := (ts.getD i.toNat (⟨#[]⟩, [])).1.data.toList
def vsV (ts : List TV) (l : List T2) : List V2 := l.map (fun p => (lbT ts p.1, p.2))
theorem vsV_step {ts : List TV} {l : List T2} {k i : Nat} {y : Int} {s : ByteArray} {x : List T3} (h : l[k]? = some ((i : Int), y)) (hx : ts[i]? = some (s, x)) : vsV ts (l.take (k + 1)) = vsV ts (l.take k) ++ [(s.data.toList, y)] := by
  unfold vsV
  rw [take_succ_of h, List.map_append]
  congr 1
  show [(lbT ts (i : Int), y)] = _
  unfold lbT
  rw [Int.toNat_natCast, getD_of hx]
theorem mtS_mem (xs : List T3) (ts : List TV) (z : Int) : ∀ k, ∀ p ∈ mtS xs ts z k, ∃ i : Nat, p.1 = (i : Int) ∧ i < k
  | 0 => by intro p hp; simp [mtS] at hp
  | k + 1 => by
    intro p hp
    have ih := mtS_mem xs ts z k
    rw [mtS] at hp
    split at hp
    · rcases List.mem_append.1 hp with hp | hp
      · obtain ⟨i, h1, h2⟩ := ih p hp; exact ⟨i, h1, by omega⟩
      · rw [List.mem_singleton] at hp; subst hp; exact ⟨k, rfl, by omega⟩
    · obtain ⟨i, h1, h2⟩ := ih p hp; exact ⟨i, h1, by omega⟩
theorem fold_perm : ∀ (xs acc : List T2), (xs.foldl (insR leK) acc).Perm (acc ++ xs)
  | [], acc => by simp
  | x :: xs, acc => by
    rw [List.foldl_cons]
    refine (fold_perm xs _).trans (((insR_perm leK acc x).append_right xs).trans ?_)
    exact (List.perm_middle (a := x) (l₁ := acc) (l₂ := xs)).symm
theorem nrS_mem {kk : Int} {l : List T2} {p : T2} (h : p ∈ nrS kk l) : p ∈ l := by
  have h1 : p ∈ srtM l := List.mem_of_mem_take h
  have h2 := (fold_perm l []).mem_iff.1 h1
  simpa using h2
theorem putV1 {w : World} {base g n c i : Nat} {e : TypeId} {xs : List V3} {x : V3} (h : w.ownsRow base e 3 (.slice (some ⟨g, 0, none⟩) n c) n (xs.flatMap cV)) (hx : xs[i]? = some x) (a : Int) :
    (w.setCell ⟨g, i * 3 + 1, none⟩ (.int .i64 a)).ownsRow base e 3 (.slice (some ⟨g, 0, none⟩) n c) n ((xs.set i (x.1, a, x.2.2)).flatMap cV) := by
  have h1 := (h.stored (i * 3 + 1) (.int .i64 a)).1
  obtain ⟨hi, hxi⟩ := List.getElem?_eq_some_iff.1 hx
  have hx2 : xs = xs.take i ++ x :: xs.drop (i + 1) := by rw [← hxi, List.getElem_cons_drop, List.take_append_drop]
  have hl : (xs.take i).length = i := by rw [List.length_take]; omega
  have e1 : (xs.flatMap cV).set (i * 3 + 1) (.int .i64 a) = (xs.set i (x.1, a, x.2.2)).flatMap cV := by
    have e2 : xs.set i (x.1, a, x.2.2) = xs.take i ++ (x.1, a, x.2.2) :: xs.drop (i + 1) := by rw [List.set_eq_take_append_cons_drop, if_pos hi]
    rw [e2]
    conv => lhs; rw [hx2]
    rw [List.flatMap_append, List.flatMap_cons, List.flatMap_append, List.flatMap_cons]
    have hf : ((xs.take i).flatMap cV).length = i * 3 := by rw [flat_len cV_len, hl]
    rw [List.set_append_right _ _ (by omega), show i * 3 + 1 - ((xs.take i).flatMap cV).length = 1 by omega]
    rfl
  rw [e1] at h1
  exact h1
theorem putV2 {w : World} {base g n c i : Nat} {e : TypeId} {xs : List V3} {x : V3} (h : w.ownsRow base e 3 (.slice (some ⟨g, 0, none⟩) n c) n (xs.flatMap cV)) (hx : xs[i]? = some x) (a : Int) :
    (w.setCell ⟨g, i * 3 + 2, none⟩ (.int .i64 a)).ownsRow base e 3 (.slice (some ⟨g, 0, none⟩) n c) n ((xs.set i (x.1, x.2.1, a)).flatMap cV) := by
  have h1 := (h.stored (i * 3 + 2) (.int .i64 a)).1
  obtain ⟨hi, hxi⟩ := List.getElem?_eq_some_iff.1 hx
  have hx2 : xs = xs.take i ++ x :: xs.drop (i + 1) := by rw [← hxi, List.getElem_cons_drop, List.take_append_drop]
  have hl : (xs.take i).length = i := by rw [List.length_take]; omega
  have e1 : (xs.flatMap cV).set (i * 3 + 2) (.int .i64 a) = (xs.set i (x.1, x.2.1, a)).flatMap cV := by
    have e2 : xs.set i (x.1, x.2.1, a) = xs.take i ++ (x.1, x.2.1, a) :: xs.drop (i + 1) := by rw [List.set_eq_take_append_cons_drop, if_pos hi]
    rw [e2]
    conv => lhs; rw [hx2]
    rw [List.flatMap_append, List.flatMap_cons, List.flatMap_append, List.flatMap_cons]
    have hf : ((xs.take i).flatMap cV).length = i * 3 := by rw [flat_len cV_len, hl]
    rw [List.set_append_right _ _ (by omega), show i * 3 + 2 - ((xs.take i).flatMap cV).length = 2 by omega]
    rfl
  rw [e1] at h1
  exact h1
theorem own_atV {w : World} {base g n c i : Nat} {e : TypeId} {xs : List V3} {x : V3} (h : w.ownsRow base e 3 (.slice (some ⟨g, 0, none⟩) n c) n (xs.flatMap cV)) (hx : xs[i]? = some x) :
    w.cell? ⟨g, i * 3, none⟩ = some (.string (b8 x.1)) ∧ w.cell? ⟨g, i * 3 + 1, none⟩ = some (.int .i64 x.2.1) ∧ w.cell? ⟨g, i * 3 + 2, none⟩ = some (.int .i64 x.2.2) ∧ w.frozen? ⟨g, i * 3 + 1, none⟩ = false ∧ w.frozen? ⟨g, i * 3 + 2, none⟩ = false := by
  have hi := (List.getElem?_eq_some_iff.1 hx).1
  have hn : xs.length * 3 = n * 3 := by have := h.1; rw [flat_len cV_len] at this; exact this
  refine ⟨?_, ?_, ?_, h.frozenAt _, h.frozenAt _⟩
  · have h9 := h.cellAt (i * 3 + 0) (by omega)
    rw [flat_get cV_len xs i 0 x hx (by omega)] at h9
    simpa [cV] using h9
  · have h9 := h.cellAt (i * 3 + 1) (by omega)
    rw [flat_get cV_len xs i 1 x hx (by omega)] at h9
    simpa [cV] using h9
  · have h9 := h.cellAt (i * 3 + 2) (by omega)
    rw [flat_get cV_len xs i 2 x hx (by omega)] at h9
    simpa [cV] using h9
theorem set_both {α : Type} {xs : List α} {i : Nat} {a b : α} : (xs.set i a).set i b = xs.set i b := List.set_set ..
theorem plV_take {ts : List TV} {l : List T2} {k : Nat} : (plV (vsV ts (l.take k))).length ≤ k := by
  have h := plV_len (vsV ts (l.take k)); unfold vsV at h; rw [List.length_map, List.length_take] at h; unfold vsV; omega
section
variable {P : Program} (w : World) {ops : Array Oper} {rest : List Oper} {o : Oper} {a : Act} {Q : Exit → Act → World → Prop}
theorem app_growV {α : Type} {f : α → List Value} {S Y : Nat} (hf : ∀ x, (f x).length = S) (hone : ∀ x, ∀ u ∈ f x, u.oneCell' = true) (hg : o.guard = none) (s x : Operand) (t : TypeId)
    (ho : o.op = .call { callee := .builtin .append, args := #[s, x], argTypes := #[t, t] }) (base : Nat) (e : TypeId) (i : TypeInfo) (z : Value)
    (h1 : P.underlying t = some (.slice e)) (hi : P.info? e = some i) (hz : i.zero = some z) (hs : i.size = S) (hy : i.bytes = Y) (hzs : z.cells.size = S) (hS : 0 < S) (hY : Y ≤ 4096)
    (A : Option Addr) (n c : Nat) (l : List α) (hv : a.eval s = .slice A n c) (hown : w.ownsRow base e S (.slice A n c) n (l.flatMap f))
    (g c' : Nat) (p : α) (hx : a.eval x = .slice (some ⟨g, 0, none⟩) 1 c') (hcell : ∀ j u, (f p)[j]? = some u → w.cell? ⟨g, j, none⟩ = some u) (hn : n ≤ 1048576) (hbase : base ≤ w.heap.size)
    (K : ∀ A' c' w', w'.ownsRow base e S (.slice A' (n + 1) c') (n + 1) ((l ++ [p]).flatMap f) → w.grownBy w' (Value.slice A n c).ownBlock → wpList P ops Q rest (a.put o.dst (.slice A' (n + 1) c')) w') :
    wpList P ops Q (o :: rest) a w := by
  have hb : (n + 1) * Y ≤ 140737488355328 := Nat.le_trans (Nat.mul_le_mul (show n + 1 ≤ 1048577 by omega) hY) (by decide)
  refine wpList_append_own w hg s x t ho base e i z S Y h1 hi hz hs hy hzs hS (.slice A n c) n (l.flatMap f) hv hown ⟨g, 0, none⟩ 1 c' (f p) hx (by rw [hf, Nat.one_mul]) ?_ (hone p) (by unfold maxLen; omega) hb hbase ?_
  · intro j u hu
    have h := hcell j u hu
    unfold Addr.add
    split
    · rename_i h0; subst h0; exact h
    · simpa using h
  · intro v' w' hown' hgrow _
    obtain ⟨A', c'', rfl, _, _⟩ := own_form hown'
    exact K A' c'' w' (by rw [flat_snoc]; exact hown') hgrow
end
theorem plV_bd {vs : List V2} {j : Nat} {q : V3} (h : (plV vs)[j]? = some q) : 0 ≤ q.2.1 ∧ q.2.1 ≤ vs.length := by
  obtain ⟨s, _, rfl⟩ := List.mem_map.1 (List.mem_of_getElem? h)
  exact cntV_bd vs s
theorem newsV {w : World} {g : Nat} {t : TypeId} {p : V3} (K : Blk w g t #[.string (b8 p.1), .int .i64 p.2.1, .int .i64 p.2.2]) : ∀ j u, (cV p)[j]? = some u → w.cell? ⟨g, j, none⟩ = some u := by
  intro j u hu
  rw [K.cell j]
  match j, hu with
  | 0, hu => exact hu
  | 1, hu => exact hu
  | 2, hu => exact hu
theorem pollS (x y t : Value) (Z : World) : Sem.run Try.prog (Instr.field 106 (.agg #[x, y, t]) 0) Z = .ok x Z := by kernel_rfl
set_option maxRecDepth 100000 in
set_option maxHeartbeats 8000000 in
theorem vote_any (z kk : Int) (A B : Option Addr) (n ca m cb : Nat) (ts : List TV) (xs : List T3) (w : World) (hs : TL w w.heap.size A m cb ts) (hr : RdL c3 3 w w.heap.size B n ca xs) (hm : totT ts ≤ 1048576) (hn : n ≤ 1048576) (V0 : storeB z ts = true) (V1 : featsOk 72 xs = true) (k1 : 1 ≤ kk) (k2 : kk ≤ 40) :
    Calls Try.prog 41 #[.agg #[.int .i64 z, .slice A m cb], .slice B n ca, .int .i64 kk] w fun e w' => e = .returned (.string (b8 (vtV (vsV ts (nrS kk (mtS xs ts z m)))))) ∧ Below w.heap.size w w' := by
  obtain ⟨i0, hi, hz0, hz1, hz2⟩ := info_parts Try.infoPoll
  have hl := Lib.hid hs.len
  have hm40 : m ≤ 40 := by have h := storeB_len V0; rw [hl.out] at h; exact h
  go_enter Try.func41, Try.ntmps41
  go_wp2_with fail
  have K0 := Blk.new (w) 31 #[.int .i64 z, .slice A m cb]
  have hbv : Below (w).heap.size (w) ((w).alloc (.cells #[.int .i64 z, .slice A m cb] 31)) := (Below.refl _ _).alloc (Nat.le_refl _) _
  replace hs := hs.on hbv
  replace hr := hr.on hbv
  generalize (w).alloc (.cells #[.int .i64 z, .slice A m cb] 31) = v at *
  have kc0 := K0.cell 0
  have kc1 := K0.cell 1
  simp only [List.getElem?_toArray, List.getElem?_cons_succ, List.getElem?_cons_zero] at kc0 kc1
  have kz := K0.lt
  go_wp2_with fail
  go_wp2_with fail
  with_reducible refine (nearest_any z kk _ _ _ _ _ _ ts xs _ hs hr hm hn V0 V1 k1 k2).mono ?_
  rintro e w1 ⟨A', n', c', rfl, ow, lw, hb1⟩
  clear kc0 kc1 kz
  replace hs := hs.on hb1
  have KK := Lib.hid (K0.on hb1)
  obtain ⟨M, hM⟩ : ∃ M, nrS kk (mtS xs ts z m) = M := ⟨_, rfl⟩
  rw [hM] at ow lw
  have HMM := Lib.hid hM
  have hmem : Hid (∀ p ∈ M, ∃ i : Nat, p.1 = (i : Int) ∧ i < m) := by intro p hp; exact mtS_mem xs ts z m p (nrS_mem (hM ▸ hp))
  have hn40 : n' ≤ 40 := by have h1 := nrS_len kk (mtS xs ts z m); have h2 := mtS_len xs ts z m; rw [hM] at h1; omega
  have HR := Lib.hid (RdL.of_own lw ow)
  have HL := Lib.hid lw
  have HS := Lib.hid hs
  have HB := Lib.hid (below_on hb1 hbv)
  clear ow lw hs hr hb1 hbv K0 hM V0 V1
  go_wp2_with fail
  go_loopw [7, 17] (fun q i wr => ∃ (k n2 c2 : Nat) (A2 : Option Addr), i = .int .i64 k ∧ k ≤ n' ∧ q = .slice A2 n2 c2 ∧ Below w1.heap.size w1 wr ∧ Hid (wr.ownsRow w1.heap.size 106 3 (.slice A2 n2 c2) n2 ((plV (vsV ts (M.take k))).flatMap cV)) ∧ Hid ((plV (vsV ts (M.take k))).length = n2) ∧ n2 ≤ k) (fun _ i _ => n' - (intOf i).toNat)
  case atStart => exact ⟨0, 0, 0, none, rfl, by omega, rfl, Below.refl _ _, World.ownsRow_nil _ _ _ _, rfl, by omega⟩
  case round =>
    obtain ⟨k, n2, c2, A2, rfl, hk, rfl, hb, HO, hln, hnk⟩ := hrel
    have hsz := hb.size
    by_cases hlt : k < n'
    · obtain ⟨b, off, x0, y0, rfl, hbl, hx, q0, q1⟩ := (HR.out.on hb).at2 hlt
      obtain ⟨i, hi1, him⟩ := hmem.out _ (List.mem_of_getElem? hx.out)
      simp only at hi1
      subst hi1
      obtain ⟨b1, off1, s, B', m', cb', xT, rfl, hbl1, hxT, r0, r1, hx3⟩ := (HS.out.on hb).at_ him
      have K9 := KK.out.on hb
      have kc0 := K9.cell 0
      have kc1 := K9.cell 1
      simp only [List.getElem?_toArray, List.getElem?_cons_succ, List.getElem?_cons_zero] at kc0 kc1
      have kz := K9.lt
      have HT := Lib.hid (vsV_step hx.out hxT.out)
      have i1 : (k : Int) < (n' : Int) := by omega
      have i2 : (0 : Int) ≤ (k : Int) := by omega
      have i3 : (i : Int) < (m : Int) := by omega
      have i4 : (0 : Int) ≤ (i : Int) := by omega
      clear hx3 r1 hx hxT
      go_wp2_with fail
      have KM : Blk ((wr.alloc (.cells #[.int .i64 (i : Int), .int .i64 y0] 92)).alloc (.cells #[.string s] 9)) (wr.heap.size) 92 #[.int .i64 (i : Int), .int .i64 y0] := by have hk := (Blk.new wr 92 #[.int .i64 (i : Int), .int .i64 y0]).alloc (.cells #[.string s] 9); simpa using hk
      have KL : Blk ((wr.alloc (.cells #[.int .i64 (i : Int), .int .i64 y0] 92)).alloc (.cells #[.string s] 9)) (wr.heap.size + 1) 9 #[.string s] := by have hk := Blk.new (wr.alloc (.cells #[.int .i64 (i : Int), .int .i64 y0] 92)) 9 #[.string s]; simpa using hk
      have hbu : Below wr.heap.size wr ((wr.alloc (.cells #[.int .i64 (i : Int), .int .i64 y0] 92)).alloc (.cells #[.string s] 9)) := (by repeat (first | exact Below.refl _ _ | assumption | refine Below.drew ?_ | refine below_drewN ?_ _ | refine Below.alloc ?_ (by first | omega | (simp <;> omega)) _ | refine Below.setCell ?_ (by first | omega | (simp <;> omega)) _))
      generalize ((wr.alloc (.cells #[.int .i64 (i : Int), .int .i64 y0] 92)).alloc (.cells #[.string s] 9)) = u at *
      have hvl : Hid ((vsV ts (M.take k)).length ≤ 40) := by unfold vsV; show List.length _ ≤ 40; rw [List.length_map, List.length_take]; omega
      obtain ⟨vs, hvs⟩ : ∃ vs, vsV ts (M.take k) = vs := ⟨_, rfl⟩
      rw [hvs] at HO hln HT hvl
      have HP : Hid (RdL cV 3 u u.heap.size A2 n2 c2 (plV vs)) := (RdL.of_own hln.out HO.out).on hbu
      have HOu : Hid (u.ownsRow w1.heap.size 106 3 (.slice A2 n2 c2) n2 ((plV vs).flatMap cV)) := own_below HO.out hbu
      have KL2 : Cel u (wr.heap.size + 1) 0 (.string (b8 s.data.toList)) := by rw [b8_back]; exact KL.cel
      have hb0 := Lib.hid (below_app hb hbu hsz)
      clear q0 q1 r0 kc0 kc1 kz K9 HO hbu hb KL hvs
      with_reducible refine (indexFunc_any A2 n2 c2 (wr.heap.size + 1) s.data.toList (plV vs) u HP.out KL2 (by omega)).mono ?_
      rintro e w2 ⟨hb2, hcase⟩
      have KM2 := KM.on hb2
      have KL3 := KL2.on hb2
      have HO2 := Lib.hid (own_below HOu.out hb2)
      have hB2 := Lib.hid (below_app hb0.out hb2 (by have := hb0.out.size; exact this))
      clear HP HOu KL2 KM hb0 hb2
      rcases hcase with ⟨j, q, hq, hqt, rfl⟩ | ⟨hno, rfl⟩
      · have hjn : j < n2 := by have h := (List.getElem?_eq_some_iff.1 hq).1; rw [hln.out] at h; exact h
        obtain ⟨g, hg0, hg1, hg2⟩ := own_at HO2.out (by omega)
        cases hg0
        obtain ⟨p0, p1, p2, f1, f2⟩ := own_atV HO2.out hq
        have hbd := plV_bd hq
        have hvl2 := hvl.out
        obtain ⟨lb, a, c⟩ := q
        simp only at hqt hbd p0 p1 p2
        obtain ⟨cy, hcy⟩ : ∃ cy, IntKind.i64.wrap (c + y0) = cy := ⟨_, rfl⟩
        have HE : Hid (plV (vsV ts (M.take (k + 1))) = (plV vs).set j (lb, a + 1, cy)) := by
          show _ = _
          rw [HT.out, plV_old hq hqt, hqt, ← hcy]
        have hO3 := putV1 HO2.out hq (a + 1)
        have hO4 := putV2 hO3 (show _ = some (lb, a + 1, c) from by rw [List.getElem?_set_self (by rw [hln.out]; exact hjn)]) cy
        rw [set_both] at hO4
        have HO4 : Hid (((w2.setCell ⟨g, j * 3 + 1, none⟩ (.int .i64 (a + 1))).setCell ⟨g, j * 3 + 2, none⟩ (.int .i64 cy)).ownsRow w1.heap.size 106 3 (.slice (some ⟨g, 0, none⟩) n2 c2) n2 ((plV (vsV ts (M.take (k + 1)))).flatMap cV)) := by
          show World.ownsRow _ _ _ _ _ _ _
          rw [HE.out]; exact hO4
        have hln2 : Hid ((plV (vsV ts (M.take (k + 1)))).length = n2) := by show _ = _; rw [HE.out, List.length_set]; exact hln.out
        have hne : ¬ g = wr.heap.size := by intro e; subst e; exact own_blk_ne HO2.out KM2 (by decide) rfl
        have o1 : IntKind.i64.wrap (a + 1) = a + 1 := by rw [IntWalk.i64_in _ (by omega)]
        have i5 : ¬ (j : Int) < 0 := by omega
        have i6 : (j : Int) < (n2 : Int) := by omega
        have i7 : (0 : Int) ≤ (j : Int) := by omega
        obtain ⟨m0, m1, _, _, zm⟩ := KM2.two
        have hBk := hB2.out.size
        clear hO3 hO4 hq hbd
        go_wp2_with fail
        go_region
        go_wp2
        exact ⟨⟨k + 1, n2, c2, some ⟨g, 0, none⟩, by go_num, by omega, rfl, ((hB2.out.setCell (by exact hg1) _).setCell (by exact hg1) _).drew, own_below HO4.out (Below.refl _ _).drew, hln2.out, by omega⟩, by simp [intOf]; omega⟩
      · have hno2 := Lib.hid hno
        clear hno
        have i5 : (-1 : Int) < 0 := by decide
        have q1 := KL3.cell
        have hB2s := hB2.out.size
        go_wp2_with (at_builtin; with_reducible refine app_growV _ cV_len oneV rfl (.tmp 35) (.tmp 38) 103 rfl w1.heap.size 106 i0 _ Try.underlying103 hi hz0 hz1 hz2 rfl (by decide) (by decide) A2 n2 c2 _ rfl (HO2.out.alloc _) w2.heap.size 1 (s.data.toList, 0, 0) rfl ?_ (by omega) ?_ ?_)
        · exact newsV (Blk.new _ _ _)
        · simp; omega
        · intro A4 c4 w4 hw4 hg4
          have KM4 := (KM2.alloc _).grown (HO2.out.alloc _) hg4 (by decide)
          have hB4 : Below w1.heap.size w1 w4 := (hB2.out.alloc hB2s _).trans ((Below.refl _ _).grown hg4 (by simp; omega) (fun k hk => (HO2.out.lt k hk).1))
          have HB4 := Lib.hid hB4
          have HO4 : Hid (w4.ownsRow w1.heap.size 106 3 (.slice A4 (n2 + 1) c4) (n2 + 1) ((plV vs ++ [((s.data.toList, 0, 0) : V3)]).flatMap cV)) := by
            show World.ownsRow _ _ _ _ _ _ _
            rw [flat_snoc]; exact hw4
          clear hw4 hg4 hB4 KM2 KL3 hB2s
          obtain ⟨g, hg0, hg1, hg2⟩ := own_at HO4.out (by omega)
          cases hg0
          have hq : (plV vs ++ [((s.data.toList, 0, 0) : V3)])[n2]? = some (s.data.toList, 0, 0) := by rw [List.getElem?_append_right (by rw [hln.out]; exact Nat.le_refl _), hln.out]; simp
          obtain ⟨p0, p1, p2, f1, f2⟩ := own_atV HO4.out hq
          simp only at p0 p1 p2
          obtain ⟨cy, hcy⟩ : ∃ cy, IntKind.i64.wrap (0 + y0) = cy := ⟨_, rfl⟩
          have hcy3 : IntKind.i64.wrap y0 = cy := by rw [← hcy, Int.zero_add]
          have HE : Hid (plV (vsV ts (M.take (k + 1))) = (plV vs ++ [((s.data.toList, 0, 0) : V3)]).set n2 (s.data.toList, 1, cy)) := by
            show _ = _
            rw [HT.out, plV_new hno2.out, List.set_append_right _ _ (by rw [hln.out]; exact Nat.le_refl _), hln.out, Nat.sub_self, ← hcy3]
            rfl
          have hO5 := putV1 HO4.out hq 1
          have hO6 := putV2 hO5 (show _ = some (s.data.toList, 1, 0) from by rw [List.getElem?_set_self (by rw [List.length_append, hln.out]; simp)]) cy
          rw [set_both] at hO6
          have HO6 : Hid (((w4.setCell ⟨g, n2 * 3 + 1, none⟩ (.int .i64 1)).setCell ⟨g, n2 * 3 + 2, none⟩ (.int .i64 cy)).ownsRow w1.heap.size 106 3 (.slice (some ⟨g, 0, none⟩) (n2 + 1) c4) (n2 + 1) ((plV (vsV ts (M.take (k + 1)))).flatMap cV)) := by
            show World.ownsRow _ _ _ _ _ _ _
            rw [HE.out]; exact hO6
          have hln2 : Hid ((plV (vsV ts (M.take (k + 1)))).length = n2 + 1) := by show _ = _; rw [HE.out, List.length_set, List.length_append, hln.out]; rfl
          have hne : ¬ g = wr.heap.size := by intro e; subst e; exact own_blk_ne HO4.out KM4 (by decide) rfl
          obtain ⟨m0, m1, _, _, zm⟩ := KM4.two
          have i6 : (n2 : Int) < (n2 : Int) + 1 := by omega
          have i7 : (0 : Int) ≤ (n2 : Int) := by omega
          have i8 : n2 < n2 + 1 := by omega
          clear hO5 hO6 hq
          go_wp2_with fail
          go_region
          go_wp2
          exact ⟨⟨k + 1, n2 + 1, c4, some ⟨g, 0, none⟩, by go_num, by omega, rfl, ((HB4.out.setCell (by exact hg1) _).setCell (by exact hg1) _).drew, own_below HO6.out (Below.refl _ _).drew, hln2.out, by omega⟩, by simp [intOf]; omega⟩
    · have hkn : k = n' := by omega
      subst hkn
      have htk : M.take k = M := List.take_of_length_le (by rw [HL.out]; exact Nat.le_refl _)
      rw [htk] at HO hln
      have HBx := Lib.hid hb
      have hBs := HB.out.size
      clear hb
      cases hpl : plV (vsV ts M) with
      | nil =>
        have hv : Hid (vsV ts M = []) := vote_none hpl
        have hn0 : n2 = 0 := by rw [← hln.out, hpl]; rfl
        subst hn0
        clear hpl
        go_wp2
        refine bodyPost_ret (v := .string ⟨#[]⟩) (by simp [results, Try.results41, go_sem]) rfl ⟨?_, below_app HB.out HBx.out hBs⟩
        rw [HMM.out, hv.out]
        rfl
      | cons p ps =>
        have HV := Lib.hid (vote_law hpl)
        rw [hpl] at HO hln
        have HP : Hid (RdL cV 3 wr wr.heap.size A2 n2 c2 (p :: ps)) := RdL.of_own hln.out HO.out
        have hn0 : 0 < n2 := by rw [← hln.out]; simp
        have i5 : ¬ (n2 : Int) = 0 := by omega
        have i6 : ¬ n2 = 0 := by omega
        clear hpl
        go_wp2_with fail
        with_reducible refine (minFunc_any A2 n2 c2 p ps _ HP.out (by omega)).mono ?_
        rintro e w5 ⟨rfl, hb5⟩
        have HB5 := Lib.hid (below_app HBx.out hb5 HBx.out.size)
        clear hb5
        go_wp2
        rw [pollS]
        go_wp2
        go_ret
        rw [HMM.out, ← HV.out]
        exact ⟨rfl, below_app HB.out HB5.out hBs⟩
end Go.Proofs.Ytkldejbhhbgefaa
