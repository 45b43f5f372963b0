/- Copies of stores: the reference's. -/
import Derived.Test.YtkldejbhhbgefaaCp
namespace Go.Proofs.Ytkldejbhhbgefaa
open Go.ChangeShapes Go.WideShapes Go.ChangeAt Go.RowKit
set_option linter.unusedVariables false
set_option linter.unusedSimpArgs false
/-- append of a whole slice onto an empty one, inside a region that draws. -/
theorem step_all {P : Program} (w : World) {ops : Array Oper} {o : Oper} {a : Act} {Q : Exit → Act → World → Prop} {K : Act → World → Prop} {E : Prop} {α : Type} {f : α → List Value} {S Y : Nat} (hf : ∀ x, (f x).length = S) (hone : ∀ x, ∀ u ∈ f x, u.oneCell' = true) (hgd : o.guard = none) (s x : Operand) (t : TypeId)
    (ho : o.op = .call { callee := .builtin .append, args := #[s, x], argTypes := #[t, t] }) (base : Nat) (e : TypeId) (i : TypeInfo) (z : Value)
    (h1 : P.underlying t = some (.slice e)) (hi : P.info? e = some i) (hz : i.zero = some z) (hs : i.size = S) (hy : i.bytes = Y) (hzs : z.cells.size = S) (hS : 0 < S) (hY : Y ≤ 4096)
    (A0 : Option Addr) (c0 : Nat) (hv : a.eval s = .slice A0 0 c0) (hown : w.ownsRow base e S (.slice A0 0 c0) 0 [])
    (A : Option Addr) (n c B : Nat) (xs : List α) (hx : a.eval x = .slice A n c) (hr : RdL f S w B A n c xs) (hpos : 0 < n) (hn : n ≤ 1048576) (hbase : base ≤ w.heap.size)
    (k : ∀ A' c' w', w'.ownsRow base e S (.slice A' n c') n (xs.flatMap f) → Below base w w' → K (a.put o.dst (.slice A' n c')) w') :
    if Region.wanted o (yielded ops a.tmps) = true then Oper.wp P o a w K Q else E := by
  have hw : Region.wanted o (yielded ops a.tmps) = true := by simp [Region.wanted, hgd]
  rw [if_pos hw]
  have hb : (0 + n) * Y ≤ 140737488355328 := by rw [Nat.zero_add]; exact Nat.le_trans (Nat.mul_le_mul hn hY) (by decide)
  obtain ⟨hl, _, _, _, h4⟩ := hr
  obtain ⟨b, off, rfl, hbB, hc⟩ := h4 hpos
  have hnews : ∀ j u, (xs.flatMap f)[j]? = some u → w.cell? ((⟨b, off, none⟩ : Addr).add j) = some u := by
    intro j u hu
    have h := hc j u hu
    unfold Addr.add
    split
    · rename_i h0; subst h0; exact h
    · exact h
  have hcell : ∀ u ∈ xs.flatMap f, u.oneCell' = true := by
    intro u hu
    obtain ⟨y, _, hy2⟩ := List.mem_flatMap.1 hu
    exact hone y u hy2
  obtain ⟨v', w', hrun, hown', hgrow, _⟩ := run_append_own (P := P) w base t o.type e i z S Y h1 hi hz hs hy hzs hS (.slice A0 0 c0) 0 [] hown ⟨b, off, none⟩ n c (xs.flatMap f) (by rw [flat_len hf, hl]) hnews hcell (by unfold maxLen; omega) hb hbase
  rw [Nat.zero_add, List.nil_append] at hown'
  obtain ⟨A', c'', rfl, _, _⟩ := own_form hown'
  unfold Oper.wp execOp
  simp only [ho, resolve, invoke, builtin, Sem.run_bind, Sem.run_pure, Result.andThen_ok, List.map_toArray, List.map_cons, List.map_nil, hv, hx, hrun]
  exact k A' c'' w' hown' ((Below.refl _ _).grown hgrow hbase (fun k hk => (hown.lt k hk).1))
/-- The first k templates without the one with an index. -/
def lessL (ts : List TV) (less : Int) : Nat → List TV
  | 0 => []
  | k + 1 => if (k : Int) = less then lessL ts less k else lessL ts less k ++ [ts.getD k (⟨#[]⟩, [])]
theorem lessL_eq {ts : List TV} {less : Int} {k : Nat} (h : (k : Int) = less) : lessL ts less (k + 1) = lessL ts less k := if_pos h
theorem lessL_ne {ts : List TV} {less : Int} {k : Nat} {x : TV} (h : ¬ (k : Int) = less) (hx : ts[k]? = some x) : lessL ts less (k + 1) = lessL ts less k ++ [x] := by rw [lessL, if_neg h, getD_of hx]
theorem lessL_len (ts : List TV) (less : Int) : ∀ k, (lessL ts less k).length ≤ k
  | 0 => Nat.le_refl _
  | k + 1 => by
    have := lessL_len ts less k
    rw [lessL]; split
    · omega
    · simp; omega
theorem lessL_all {ts : List TV} {less : Int} (h : less < 0) : ∀ k, k ≤ ts.length → lessL ts less k = ts.take k
  | 0, _ => by simp [lessL]
  | k + 1, hk => by
    have hx : ts[k]? = some ts[k] := List.getElem?_eq_getElem (by omega)
    rw [lessL_ne (by omega) hx, lessL_all h k (by omega), take_succ_of hx]
set_option maxRecDepth 100000 in
set_option maxHeartbeats 8000000 in
theorem l11Own_ptr (z less : Int) (A : Option Addr) (m cb : Nat) (ts : List TV) (w : World) (g0 : Nat) (K0 : Cel w g0 0 (.int .i64 z)) (K1 : Cel w g0 1 (.slice A m cb)) (hr : TL w w.heap.size A m cb ts) (hm : totT ts ≤ 1048576) (V0 : storeB z ts = true) (hless : I64 less) :
    Calls Try.prog 36 #[.pointer (some ⟨g0, 0, none⟩), .int .i64 less] w fun e w' => ∃ (A' : Option Addr) (n' c' : Nat) (hs : List HT), e = .returned (.agg #[.int .i64 z, .slice A' n' c']) ∧ TS w' w.heap.size 67 79 A' n' c' hs (lessL ts less m) ∧ Below w.heap.size w w' := by
  obtain ⟨i0, hi, hz0, hz1, hz2⟩ := info_parts Try.infoTempl
  obtain ⟨iF, ki, kz0, kz1, kz2⟩ := info_parts (show (Try.prog.info? 79).map (fun i => (i.zero, i.size, i.bytes)) = some (some (.agg #[.int .i64 0, .int .i64 0, .int .i64 0]), 3, 24) by kernel_rfl)
  have hl := Lib.hid hr.len
  have hm40 : m ≤ 40 := by have h := storeB_len V0; rw [hl.out] at h; exact h
  have HV := Lib.hid V0
  have HM := Lib.hid hm
  have HR := Lib.hid hr
  obtain ⟨hl0, hl1⟩ := hless
  clear hm V0 hr
  have k0 := K0.cell
  have k1 := K1.cell
  have kl := K0.lt
  go_enter Try.func36, Try.ntmps36
  go_wp2_with fail
  have R0 : Blk ((w.alloc (.cells #[.int .i64 0, .slice none 0 0] 31)).alloc (.cells #[.int .i64 z, .slice none 0 0] 31)) (w.heap.size) 31 #[.int .i64 0, .slice none 0 0] := by have hk := (Blk.new w 31 #[.int .i64 0, .slice none 0 0]).alloc (.cells #[.int .i64 z, .slice none 0 0] 31); simpa using hk
  have O0 : Blk ((w.alloc (.cells #[.int .i64 0, .slice none 0 0] 31)).alloc (.cells #[.int .i64 z, .slice none 0 0] 31)) (w.heap.size + 1) 31 #[.int .i64 z, .slice none 0 0] := by have hk := Blk.new (w.alloc (.cells #[.int .i64 0, .slice none 0 0] 31)) 31 #[.int .i64 z, .slice none 0 0]; simpa using hk
  have hbv : Below w.heap.size w ((w.alloc (.cells #[.int .i64 0, .slice none 0 0] 31)).alloc (.cells #[.int .i64 z, .slice none 0 0] 31)) := (by repeat (first | exact Below.refl _ _ | assumption | refine Below.drew ?_ | refine below_drewN ?_ _ | refine Below.alloc ?_ (by first | omega | (simp <;> omega)) _ | refine Below.setCell ?_ (by first | omega | (simp <;> omega)) _))
  generalize ((w.alloc (.cells #[.int .i64 0, .slice none 0 0] 31)).alloc (.cells #[.int .i64 z, .slice none 0 0] 31)) = v at *
  have zv := O0.lt
  clear k0 k1 kl
  go_loopw [6] (fun i wr => ∃ (k n' c' : Nat) (A' : Option Addr) (hs : List HT), k ≤ m ∧ i = .int .i64 k ∧ Below w.heap.size w wr ∧ v.heap.size ≤ wr.heap.size ∧ Blk wr w.heap.size 31 #[.int .i64 0, .slice none 0 0] ∧ Blk wr (w.heap.size + 1) 31 #[.int .i64 z, .slice A' n' c'] ∧ Hid (TS wr v.heap.size 67 79 A' n' c' hs (lessL ts less k))) (fun i _ => m - (intOf i).toNat)
  case atStart => exact ⟨0, 0, 0, none, [], by omega, rfl, hbv, Nat.le_refl _, R0, O0, TS.nil _ _ _ _⟩
  case round =>
    clear O0 R0
    obtain ⟨k, nn, c', A', hs, hk, rfl, hb, hsz, R1, O1, hT⟩ := hrel
    have hsw := hb.size
    have hnn : nn ≤ k := by have h1 := lessL_len ts less k; have h2 := hT.out.x; omega
    have k0 := (K0.on hb).cell
    have k1 := (K1.on hb).cell
    have kl := (K0.on hb).lt
    by_cases hlt : k < m
    · have i1 : (k : Int) < (m : Int) := by omega
      have i2 : (0 : Int) ≤ (k : Int) := by omega
      by_cases hle : (k : Int) = less
      · have HL := Lib.hid (lessL_eq (ts := ts) hle)
        have h5 : ((k : Int) != less) = false := by simp [hle]
        clear hle
        go_wp2
        exact ⟨⟨k + 1, nn, c', A', hs, by omega, by go_num, hb, hsz, R1, O1, by unfold Hid; rw [HL.out]; exact hT.out⟩, by simp [intOf]; omega⟩
      · obtain ⟨b, off, s, B', n', cb', x, rfl, hbl, hx, q0, q1, hx3⟩ := (HR.out.on hb).at_ hlt
        have HL := Lib.hid (lessL_ne hle hx.out)
        have h5 : ((k : Int) != less) = true := by simpa using hle
        have hxn : n' ≤ 1048576 := by have h := (totT_mem hx.out HM.out).2; rw [hx3.len] at h; omega
        have hpos : 0 < n' := by have h := featsOk_pos (storeB_at HV.out hx.out).2; rw [hx3.len] at h; exact h
        have hxl := Lib.hid hx3.len
        have HX := Lib.hid hx3
        have zo := O1.lt
        have o0 := O1.cell 0
        have o1 := O1.cell 1
        simp only [List.getElem?_toArray, List.getElem?_cons_succ, List.getElem?_cons_zero] at o0 o1
        have f0 := O1.frozen 0
        have f1 := O1.frozen 1
        clear hle hx3
        go_wp2_with fail
        clear k0 k1 h5
        have hE : (wr.alloc (.cells #[] 79)).ownsRow wr.heap.size 79 3 (.slice (some ⟨wr.heap.size, 0, none⟩) 0 0) 0 [] := by simpa using World.ownsRow_lit (base := wr.heap.size) (e := 79) (size := 3) wr #[] 0 (Nat.le_refl _) (by simp [maxLen]) rfl
        have HE := Lib.hid hE
        have hbE := Lib.hid ((Below.refl wr.heap.size wr).alloc (Nat.le_refl _) (.cells #[] 79))
        clear hE
        go_region_law (first | (refine step_all _ c3_len one3 (by rfl) (.tmp 37) (.tmp 41) 43 (by rfl) wr.heap.size 79 iF _ Try.underlying43 ki kz0 kz1 kz2 rfl (by decide) (by decide) _ _ (by rfl) HE.out B' n' cb' wr.heap.size x (by rfl) (HX.out.alloc (Nat.le_refl _) (.cells #[] 79)) hpos hxn (by simp) ?_; intro A3 q3 w3 o3 hb3; obtain ⟨u0, u1, y0, y1, zs⟩ := (O1.on (hbE.out.drew.trans hb3)).two; have v0 := cell_on2 (hbE.out.drew.trans hb3) q0; have v1 := cell_on2 (hbE.out.drew.trans hb3) q1) | (refine step_grow _ cT_len oneT (by rfl) (.tmp 32) (.tmp 44) 29 (by rfl) v.heap.size 67 i0 _ Try.underlying29 hi hz0 hz1 hz2 rfl (by decide) (by decide) A' nn c' hs (by rfl) ((own_below hT.out.o (hbE.out.drew.trans hb3)).alloc _) w3.heap.size 1 (s, A3, n', q3) (by rfl) (newsT (Blk.new w3 67 #[.string s, .slice A3 n' q3])) (by omega) (by have := (hbE.out.drew.trans hb3).size; simp; omega) ?_; intro A4 c4 w4 hw4 hg4; have hB4 : Below v.heap.size (w3.alloc (.cells #[.string s, .slice A3 n' q3] 67)) w4 := (Below.refl _ _).grown hg4 (by have := (hbE.out.drew.trans hb3).size; simp; omega) (fun q hq => (hT.out.o.lt q hq).1); obtain ⟨j0, j1, g0, g1, zr⟩ := (((O1.on (hbE.out.drew.trans hb3)).alloc (.cells #[.string s, .slice A3 n' q3] 67)).belowB hB4 zv).two))
        all_goals
          have hD : Below wr.heap.size wr w3 := hbE.out.drew.trans hb3
          have zD := hD.size
          have hDa : Below w3.heap.size w3 (w3.alloc (.cells #[.string s, .slice A3 n' q3] 67)) := (Below.refl _ _).alloc (Nat.le_refl _) _
          have hT3 := Lib.hid ((hT.out.on hD).on hDa)
          have hO3 := Lib.hid (o3.alloc (.cells #[.string s, .slice A3 n' q3] 67))
          have O4 := Lib.hid (((O1.on hD).on hDa).belowB hB4 zv)
          have R4 := Lib.hid (((R1.on hD).on hDa).belowB hB4 (by omega))
          have hP := Lib.hid (TS.push hT3.out (by decide) hO3.out hxl.out (by omega) (fun i q a hi9 ha9 => (hT.out.top i q a hi9 ha9).2) hw4 hg4)
          have hb4 := Lib.hid (((hb.trans (hD.mono (by omega))).alloc (by omega) _).trans (hB4.mono (by omega)))
          have z4 := hB4.size
          clear hw4 hg4 o3 hB4 u0 u1 y0 y1 zs v0 v1 hb3 hb hT
          go_wp2
          refine ⟨⟨k + 1, nn + 1, c4, A4, hs ++ [(s, A3, n', q3)], by omega, by go_num, hb4.out.setCell (by simp only; omega) _, ?_, R4.out.far (by simp only; omega) _, O4.out.set_ 1 _, ?_⟩, by simp [intOf]; omega⟩
          · simp [World.setCell] at z4 ⊢; omega
          · unfold Hid
            rw [HL.out]
            exact hP.out.far (by simp only; omega) _
    · have hkm : k = m := by omega
      subst hkm
      have o0 := O1.cell 0
      have o1 := O1.cell 1
      simp only [List.getElem?_toArray, List.getElem?_cons_succ, List.getElem?_cons_zero] at o0 o1
      have f0 := R1.frozen 0
      have f1 := R1.frozen 1
      have r0 := R1.cell 0
      have r1 := R1.cell 1
      simp only [List.getElem?_toArray, List.getElem?_cons_succ, List.getElem?_cons_zero] at r0 r1
      have zo := O1.lt
      have zr := R1.lt
      go_wp2
      refine bodyPost_ret (v := .agg #[.int .i64 z, .slice A' nn c']) (by simp [results, Try.results36, go_sem, r0, r1]) rfl ⟨A', nn, c', hs, rfl, ((hT.out.far (by simp only; omega) _).far (by simp only; omega) _).mono (by omega), (hb.setCell (by simp only; omega) _).setCell (by simp only; omega) _⟩
end Go.Proofs.Ytkldejbhhbgefaa
