/- Decimals: the program's by strconv, the reference's digit by digit. -/
import Derived.Test.YtnjifhlabbejoaaGreatDoorLb
import Derived.Test.YtnjifhlabbejoaaGreatDoorSu
import Derived.Test.YtnjifhlabbejoaaGreatDoorPk
import Derived.Lib.ItoaNum
import Derived.Lib.ItoaMem
import Derived.Lib.AppendIntMem
import Derived.Laws.IdiomStrings
import Derived.WalkLawsBesides
import Derived.IntWalk
namespace Go.Proofs.YtnjifhlabbejoaaGreatDoor
open Go.ChangeShapes Go.WideShapes Go.ChangeAt Go.RowKit
set_option linter.unusedVariables false
set_option linter.unusedSimpArgs false
abbrev TabD (w : World) : Prop := Lib.TabIs Tryz.prog w "internal/strconv.uint64pow10" .u64 Lib.pow10Tab
theorem TabD.on {w w' : World} (h : TabD w) (hb : Below w.heap.size w w') : TabD w' := Lib.tabBelow_of_tabIs h w' hb
def decS (n : Int) : ByteArray := ⟨(Lib.itoa n).toArray⟩
def cU (b : UInt8) : List Value := [.int .u8 (b.toNat : Int)]
theorem cU_len (b : UInt8) : (cU b).length = 1 := rfl
theorem oneU (b : UInt8) : ∀ u ∈ cU b, u.oneCell' = true := by intro u hu; simp [cU] at hu; subst hu; rfl
def dgs (m : Nat) : List UInt8 := if m = 0 then [] else Lib.decDigits m
theorem dgs_zero : dgs 0 = [] := rfl
theorem dgs_step {m : Nat} (h : 0 < m) : dgs m = dgs (m / 10) ++ [UInt8.ofNat (48 + m % 10)] := by
  unfold dgs
  rw [if_neg (by omega)]
  by_cases h2 : m < 10
  · rw [if_pos (by omega), Lib.decDigits_one h2, Nat.mod_eq_of_lt h2]; rfl
  · rw [if_neg (by omega), Lib.decDigits, dif_neg h2]
section
variable {P : Program} (w : World) {ops : Array Oper} {rest : List Oper} {o : Oper} {a : Act} {Q : Exit → Act → World → Prop}
/-- append of many elements (none, too) onto a row of the call's own. -/
theorem app_moreU {α : Type} {f : α → List Value} {S Y : Nat} (hf : ∀ x, (f x).length = S) (hone : ∀ x, ∀ u ∈ f x, u.oneCell' = true) (hg : o.guard = none) (s x : Operand) (t : TypeId)
    (ho : o.op = .call { callee := .builtin .append, args := #[s, x], argTypes := #[t, t] }) (base : Nat) (e : TypeId) (i : TypeInfo) (z : Value)
    (h1 : P.underlying t = some (.slice e)) (hi : P.info? e = some i) (hz : i.zero = some z) (hs : i.size = S) (hy : i.bytes = Y) (hzs : z.cells.size = S) (hS : 0 < S) (hY : Y ≤ 4096)
    (A : Option Addr) (n c : Nat) (l : List α) (hv : a.eval s = .slice A n c) (hown : w.ownsRow base e S (.slice A n c) n (l.flatMap f))
    (b off m c' : Nat) (xs : List α) (hx : a.eval x = .slice (some ⟨b, off, none⟩) m c') (hl : xs.length = m) (hcell : ∀ j u, (xs.flatMap f)[j]? = some u → w.cell? ⟨b, off + j, none⟩ = some u) (N : Nat) (hN : N = n + m) (hn : n + m ≤ 1048576) (hbase : base ≤ w.heap.size)
    (K : ∀ A' c' w', w'.ownsRow base e S (.slice A' N c') N ((l ++ xs).flatMap f) → Below base w w' → wpList P ops Q rest (a.put o.dst (.slice A' N c')) w') :
    wpList P ops Q (o :: rest) a w := by
  subst hN
  have hb : (n + m) * Y ≤ 140737488355328 := Nat.le_trans (Nat.mul_le_mul hn hY) (by decide)
  refine wpList_append_own w hg s x t ho base e i z S Y h1 hi hz hs hy hzs hS (.slice A n c) n (l.flatMap f) hv hown ⟨b, off, none⟩ m c' (xs.flatMap f) hx (by rw [flat_len hf, hl]) ?_ ?_ (by unfold maxLen; omega) hb hbase ?_
  · intro j u hu
    have h := hcell j u hu
    unfold Addr.add
    split
    · rename_i h0; subst h0; exact h
    · exact h
  · intro u hu
    obtain ⟨y, _, hy2⟩ := List.mem_flatMap.1 hu
    exact hone y u hy2
  · intro v' w' hown' hgrow _
    obtain ⟨A', c'', rfl, _, _⟩ := own_form hown'
    refine K A' c'' w' (by rw [List.flatMap_append]; exact hown') ?_
    exact (Below.refl _ _).grown hgrow hbase (fun k hk => (hown.lt k hk).1)
end
theorem Tryz.underlyingU : Tryz.prog.underlying 65 = some (.slice 5) := by kernel_rfl
theorem Tryz.underlying5U : Tryz.prog.underlying 5 = some (.int .u8) := by kernel_rfl
theorem Tryz.underlying9S : Tryz.prog.underlying 9 = some .string := by kernel_rfl
theorem Tryz.infoU8 : (Tryz.prog.info? 5).map (fun i => (i.zero, i.size, i.bytes)) = some (some (.int .u8 0), 1, 1) := by kernel_rfl
theorem addr_add0 (g j : Nat) : Addr.add ⟨g, 0, none⟩ j = ⟨g, j, none⟩ := by
  unfold Addr.add
  split
  · rename_i h0; rw [h0]
  · rw [Nat.zero_add]
theorem pow_step {m q a : Nat} (h : m * 2 ^ q ≤ a) : m / 10 * 2 ^ (q + 1) ≤ a := by
  refine Nat.le_trans ?_ h
  rw [Nat.pow_succ, Nat.mul_comm (2 ^ q) 2, ← Nat.mul_assoc]
  exact Nat.mul_le_mul_right _ (by omega)
theorem pow_bd {m q a : Nat} (h : m * 2 ^ q ≤ a) (hm : 0 < m) (ha : a < 2 ^ 64) : q < 64 := by
  have h1 : 2 ^ q ≤ m * 2 ^ q := Nat.le_mul_of_pos_left _ hm
  exact (Nat.pow_lt_pow_iff_right (by decide : 1 < 2)).1 (by omega)
theorem u8dig (m : Nat) : ((UInt8.ofNat (48 + m % 10)).toNat : Int) = 48 + ((m % 10 : Nat) : Int) := by
  rw [UInt8.toNat_ofNat']; omega
theorem iDecimal_any (n : Int) (w : World) (hn : I64 n) (ht : TabD w) : Calls Tryz.prog 28 #[.int .i64 n] w fun e w' => e = .returned (.string (decS n)) ∧ Below w.heap.size w w' := by
  obtain ⟨h0, h1⟩ := hn
  go_enter Tryz.func28, Tryz.ntmps28
  go_wp2_with fail
  with_reducible refine (Tryz.strconv_FormatInt_10 n (by omega) (by omega) _ ht).mono ?_
  rintro e w1 ⟨rfl, k, os, rfl⟩
  have hb := Lib.below_grow w.heap.size w (Nat.le_refl _) k os
  generalize Go.Sort.grow (w.drewN k) os = w1 at *
  go_wp2
  go_ret
  exact ⟨rfl, hb⟩
set_option maxRecDepth 100000 in
set_option maxHeartbeats 4000000 in
theorem l01Dec_any (n : Int) (w : World) (hn : I64 n) : Calls Tryz.prog 43 #[.int .i64 n] w fun e w' => e = .returned (.string (decS n)) ∧ Below w.heap.size w w' := by
  obtain ⟨h0, h1⟩ := hn
  go_enter Tryz.func43, Tryz.ntmps43
  go_wp2_with fail
  obtain ⟨i0, hi, hz0, hz1, hz2⟩ := info_parts Tryz.infoU8
  obtain ⟨s, hs⟩ : ∃ s : Int, (s = 1 ∧ 0 ≤ n) ∨ (s = -1 ∧ n < 0) := by
    by_cases h : n < 0
    · exact ⟨-1, .inr ⟨rfl, h⟩⟩
    · exact ⟨1, .inl ⟨rfl, by omega⟩⟩
  obtain ⟨a, ha⟩ : ∃ a : Nat, n.natAbs = a := ⟨_, rfl⟩
  go_loopw [3, 4] (fun r k wr => ∃ (m q g c : Nat) (K : Int) (ds : List UInt8), k = .int .i64 K ∧ K = s * (m : Int) ∧ m ≤ a ∧ r = .slice (some ⟨g, 0, none⟩) q c ∧ Hid (dgs a = dgs m ++ ds) ∧ Hid (ds.length = q) ∧ m * 2 ^ q ≤ a ∧ q ≤ 64 ∧ Below w.heap.size w wr ∧ Hid (wr.ownsRow w.heap.size 5 1 (.slice (some ⟨g, 0, none⟩) q c) q (ds.flatMap cU))) (fun _ k _ => (intOf k).natAbs)
  case atStart =>
    refine ⟨a, 0, w.heap.size, 0, n, [], rfl, ?_, Nat.le_refl _, rfl, by simp [Hid], rfl, by simp, by omega, (by repeat (first | exact Below.refl _ _ | assumption | refine Below.drew ?_ | refine below_drewN ?_ _ | refine Below.alloc ?_ (by first | omega | (simp <;> omega)) _ | refine Below.setCell ?_ (by first | omega | (simp <;> omega)) _)), ?_⟩
    · rcases hs with ⟨rfl, h⟩ | ⟨rfl, h⟩ <;> omega
    · show World.ownsRow _ _ _ _ _ _ _
      simpa using World.ownsRow_lit (base := w.heap.size) (e := 5) (size := 1) w #[] 0 (Nat.le_refl _) (by simp [maxLen]) rfl
  case round =>
    obtain ⟨m, q, g, c, K, ds, rfl, hK, hm, rfl, hd, hl, hqm, hq64, hb, HO⟩ := hrel
    rcases Nat.eq_zero_or_pos m with rfl | hm0
    · have hK0 : K = 0 := by rw [hK]; simp
      subst hK0
      have hds : ds = dgs a := by have h := hd.out; rw [dgs_zero, List.nil_append] at h; exact h.symm
      have HB := Lib.hid hb
      rcases Nat.eq_zero_or_pos a with ha0 | ha0
      · have hq0 : q = 0 := by rw [← hl.out, hds, ha0]; rfl
        have HF : Hid (decS n = ⟨#[48]⟩) := by
          have hn0 : n = 0 := by omega
          show _ = _
          rw [hn0]
          show (⟨(Lib.decDigits 0).toArray⟩ : ByteArray) = _
          rw [Lib.decDigits_one (by decide)]
          rfl
        subst hq0
        clear hK hd hb hds hs
        go_wp2
        go_ret
        rw [HF.out]
        exact ⟨rfl, HB.out⟩
      · have hda : dgs a = Lib.decDigits a := by unfold dgs; rw [if_neg (by omega)]
        have hq0 : 0 < q := by
          rw [← hl.out, hds, hda, Lib.decDigits_length]
          rw [Lib.nDigits]; split <;> omega
        have q1 : ¬ (q : Int) = 0 := by omega
        have q2 : ((q : Int) == 0) = false := by simp; omega
        have q3 : ¬ q = 0 := by omega
        have kc := run_convert_bytes_back (P := Tryz.prog) wr 65 9 5 ⟨g, 0, none⟩ c ds Tryz.underlyingU Tryz.underlying5U Tryz.underlying9S (fun j hj => by
          have h9 := HO.out.cellAt (j * 1 + 0) (by rw [← hl.out]; omega)
          rw [flat_get cU_len ds j 0 ds[j] (List.getElem?_eq_getElem hj) (by omega)] at h9
          rw [addr_add0]
          simpa [cU] using h9)
        rw [hl.out] at kc
        rcases hs with ⟨rfl, hn0⟩ | ⟨rfl, hn0⟩
        · have HF : Hid (decS n = ⟨ds.toArray⟩) := by
            show _ = _
            unfold decS Lib.itoa
            rw [if_neg (by omega), hds, hda, show n.toNat = a by omega]
          have n1 : ¬ n < 0 := by omega
          obtain ⟨S, hS⟩ : ∃ S : ByteArray, (⟨ds.toArray⟩ : ByteArray) = S := ⟨_, rfl⟩
          have hsz : S.size ≤ 64 := by rw [← hS]; show ds.toArray.size ≤ 64; rw [List.size_toArray, hl.out]; exact hq64
          rw [hS] at kc HF
          clear hK hd hb hds hS
          go_wp2
          go_ret
          rw [HF.out]
          exact ⟨rfl, HB.out⟩
        · have HF : Hid (decS n = ⟨(45 :: ds).toArray⟩) := by
            show _ = _
            unfold decS Lib.itoa
            rw [if_pos hn0, hds, hda, ha]
          have HG : Hid (decS n = ⟨#[45]⟩ ++ ⟨ds.toArray⟩) := by
            show _ = _
            rw [HF.out]
            apply ByteArray.ext
            simp
          obtain ⟨S, hS⟩ : ∃ S : ByteArray, (⟨ds.toArray⟩ : ByteArray) = S := ⟨_, rfl⟩
          have hsz : S.size ≤ 64 := by rw [← hS]; show ds.toArray.size ≤ 64; rw [List.size_toArray, hl.out]; exact hq64
          rw [hS] at kc HG
          clear hK hd hb hds hS HF
          go_wp2
          go_ret
          rw [HG.out]
          exact ⟨rfl, HB.out⟩
    · have hD : Hid (dgs a = dgs (m / 10) ++ (UInt8.ofNat (48 + m % 10) :: ds)) := by show _ = _; rw [hd.out, dgs_step hm0]; simp
      obtain ⟨D, hDD⟩ : ∃ D, K.tmod 10 = D := ⟨_, rfl⟩
      obtain ⟨Q, hQ⟩ : ∃ Q, K.tdiv 10 = Q := ⟨_, rfl⟩
      have hbs : K ≠ 0 ∧ (D = s * ((m % 10 : Nat) : Int)) ∧ Q = s * ((m / 10 : Nat) : Int) := by
        rcases hs with ⟨rfl, h⟩ | ⟨rfl, h⟩
        · refine ⟨by omega, ?_, ?_⟩
          · rw [← hDD, hK, Int.one_mul, Int.one_mul, Int.tmod_eq_emod_of_nonneg (by omega)]; omega
          · rw [← hQ, hK, Int.one_mul, Int.one_mul, Int.tdiv_eq_ediv_of_nonneg (by omega)]; omega
        · refine ⟨by omega, ?_, ?_⟩
          · rw [← hDD, hK, Int.neg_one_mul, Int.neg_tmod, Int.tmod_eq_emod_of_nonneg (by omega)]; omega
          · rw [← hQ, hK, Int.neg_one_mul, Int.neg_tdiv, Int.tdiv_eq_ediv_of_nonneg (by omega)]; omega
      obtain ⟨hK0, hD2, hQ2⟩ := hbs
      have hKb : -9223372036854775808 ≤ K ∧ K ≤ 9223372036854775807 := by rcases hs with ⟨rfl, h⟩ | ⟨rfl, h⟩ <;> omega
      have hDb : -10 < D ∧ D < 10 := by rcases hs with ⟨rfl, h⟩ | ⟨rfl, h⟩ <;> omega
      have hQb : -9223372036854775808 ≤ Q ∧ Q ≤ 9223372036854775807 := by rcases hs with ⟨rfl, h⟩ | ⟨rfl, h⟩ <;> omega
      have o1 : IntKind.i64.wrap D = D := IntWalk.i64_in _ (by omega)
      have o2 : IntKind.i64.wrap Q = Q := IntWalk.i64_in _ (by omega)
      obtain ⟨d, hd2⟩ : ∃ d : Nat, m % 10 = d := ⟨_, rfl⟩
      have o3 : IntKind.i64.wrap (48 + (d : Int)) = 48 + (d : Int) := IntWalk.i64_in _ (by omega)
      have o4 : (48 + (d : Int)) % 256 = 48 + (d : Int) := by omega
      have hU : Hid (((UInt8.ofNat (48 + m % 10)).toNat : Int) = 48 + (d : Int)) := by show _ = _; rw [u8dig, hd2]
      have hmeas : Q.natAbs < K.natAbs := by rcases hs with ⟨rfl, h⟩ | ⟨rfl, h⟩ <;> omega
      have HQ := Lib.hid hQ2
      have HS := Lib.hid hs
      have HME := Lib.hid hmeas
      have zb := hb.size
      have hqn : q < 64 := pow_bd hqm hm0 (by omega)
      have hq2 := Lib.hid (pow_step hqm)
      have hqc : q ≤ c := (RdL.of_own hl.out HO.out).cap
      by_cases hneg : D < 0
      · have hdd : Hid (-D = (d : Int)) := by show _ = _; rcases hs with ⟨rfl, h⟩ | ⟨rfl, h⟩ <;> omega
        have o5 : IntKind.i64.wrap (-D) = (d : Int) := by rw [hdd.out]; exact IntWalk.i64_in _ (by omega)
        clear hK hD2 hQ2 hd2 hs hmeas hdd hDb hQb hKb
        go_wp2_with (at_builtin; with_reducible refine app_moreU _ cU_len oneU rfl (.tmp 21) (.tmp 22) 65 rfl w.heap.size 5 i0 _ Tryz.underlyingU hi hz0 hz1 hz2 rfl (by decide) (by decide) (some ⟨wr.heap.size, 0, none⟩) 1 1 [UInt8.ofNat (48 + m % 10)] rfl ?_ g 0 q c ds rfl hl.out ?_ (q + 1) (by omega) (by omega) ?_ ?_)
        rotate_left 3
        intro A1 c1 w2 ho2 hb2
        rotate_left 1
        · have h9 := World.ownsRow_lit (base := w.heap.size) (e := 5) (size := 1) wr #[.int .u8 (48 + (d : Int))] 1 zb (by simp [maxLen]) rfl
          rw [← hU.out] at h9 ⊢
          simpa [cU] using h9
        · intro j9 u9 hu9
          have h9 := HO.out.cellAt j9 (by have h8 := (List.getElem?_eq_some_iff.1 hu9).1; rw [flat_len cU_len, hl.out] at h8; exact h8)
          rw [hu9] at h9
          have h7 : g < wr.heap.size := (HO.out.lt g rfl).2
          try rw [Nat.zero_add]
          exact (((Below.refl wr.heap.size wr).alloc (Nat.le_refl _) (.cells #[.int .u8 (48 + (d : Int))] 5)).cell (p := ⟨g, j9, none⟩) h7).trans h9
        · (try simp); omega
        obtain ⟨g2, rfl, hg0, hg1⟩ := own_at ho2 (by omega)
        have O2 := Lib.hid ho2
        have B2 := Lib.hid ((hb.alloc zb (.cells #[.int .u8 (48 + (d : Int))] 5)).trans hb2)
        clear ho2 hb2 HO
        go_wp2
        exact ⟨⟨m / 10, q + 1, g2, c1, Q, _, rfl, HQ.out, by omega, rfl, hD.out, by show _ = _; simp [hl.out], hq2.out, by omega, B2.out, by show World.ownsRow _ _ _ _ _ _ _; simpa using O2.out⟩, by simp only [intOf]; exact HME.out⟩
      · have hdd : D = (d : Int) := by rcases hs with ⟨rfl, h⟩ | ⟨rfl, h⟩ <;> omega
        clear hK hD2 hQ2 hd2 hs hmeas hDb hQb hKb
        subst hdd
        have hneg2 : ¬ (d : Int) < 0 := by omega
        go_wp2_with (at_builtin; with_reducible refine app_moreU _ cU_len oneU rfl (.tmp 21) (.tmp 22) 65 rfl w.heap.size 5 i0 _ Tryz.underlyingU hi hz0 hz1 hz2 rfl (by decide) (by decide) (some ⟨wr.heap.size, 0, none⟩) 1 1 [UInt8.ofNat (48 + m % 10)] rfl ?_ g 0 q c ds rfl hl.out ?_ (q + 1) (by omega) (by omega) ?_ ?_)
        rotate_left 3
        intro A1 c1 w2 ho2 hb2
        rotate_left 1
        · have h9 := World.ownsRow_lit (base := w.heap.size) (e := 5) (size := 1) wr #[.int .u8 (48 + (d : Int))] 1 zb (by simp [maxLen]) rfl
          rw [← hU.out] at h9 ⊢
          simpa [cU] using h9
        · intro j9 u9 hu9
          have h9 := HO.out.cellAt j9 (by have h8 := (List.getElem?_eq_some_iff.1 hu9).1; rw [flat_len cU_len, hl.out] at h8; exact h8)
          rw [hu9] at h9
          have h7 : g < wr.heap.size := (HO.out.lt g rfl).2
          try rw [Nat.zero_add]
          exact (((Below.refl wr.heap.size wr).alloc (Nat.le_refl _) (.cells #[.int .u8 (48 + (d : Int))] 5)).cell (p := ⟨g, j9, none⟩) h7).trans h9
        · (try simp); omega
        obtain ⟨g2, rfl, hg0, hg1⟩ := own_at ho2 (by omega)
        have O2 := Lib.hid ho2
        have B2 := Lib.hid ((hb.alloc zb (.cells #[.int .u8 (48 + (d : Int))] 5)).trans hb2)
        clear ho2 hb2 HO
        go_wp2
        exact ⟨⟨m / 10, q + 1, g2, c1, Q, _, rfl, HQ.out, by omega, rfl, hD.out, by show _ = _; simp [hl.out], hq2.out, by omega, B2.out, by show World.ownsRow _ _ _ _ _ _ _; simpa using O2.out⟩, by simp only [intOf]; exact HME.out⟩
end Go.Proofs.YtnjifhlabbejoaaGreatDoor
