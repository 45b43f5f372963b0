/- BoundOrder: plain law; the program's. -/
import Derived.Test.YtkldejbhhbgefaaB3
import Derived.Test.YtkldejbhhbgefaaNr
import Derived.Test.YtkldejbhhbgefaaLo
import Derived.Test.YtkldejbhhbgefaaWc
import Derived.Test.YtkldejbhhbgefaaFlInt
namespace Go.Proofs.Ytkldejbhhbgefaa
open Go.ChangeShapes Go.WideShapes Go.ChangeAt Go.RowKit
set_option linter.unusedVariables false
set_option linter.unusedSimpArgs false
def boS (xs : List T3) (ls : List (List T3)) (bd : Nat) : Nat → List T2
  | 0 => []
  | k + 1 => if bandOk xs.length (ls.getD k []).length (bd : Int) = true then boS xs ls bd k ++ [((k : Int), lbndV xs (ls.getD k []) bd)] else boS xs ls bd k
section
variable {xs x : List T3} {ls : List (List T3)} {bd k n m : Nat}
theorem boS_off (hl : xs.length = n) (hx : ls[k]? = some x) (hm : x.length = m) (h : bandOk n m (bd : Int) = false) : boS xs ls bd (k + 1) = boS xs ls bd k := by
  rw [boS, if_neg (by rw [getD_of hx, hl, hm, h]; decide)]
theorem boS_in (hl : xs.length = n) (hx : ls[k]? = some x) (hm : x.length = m) (h : bandOk n m (bd : Int) = true) : boS xs ls bd (k + 1) = boS xs ls bd k ++ [((k : Int), lbndV xs x bd)] := by
  rw [boS, if_pos (by rw [getD_of hx, hl, hm, h]), getD_of hx]
end
theorem boS_len (xs : List T3) (ls : List (List T3)) (bd : Nat) : ∀ k, (boS xs ls bd k).length ≤ k
  | 0 => by simp [boS]
  | k + 1 => by
    have h := boS_len xs ls bd k
    rw [boS]; split
    · rw [List.length_append, List.length_singleton]; omega
    · omega
theorem boS_tags (xs : List T3) (ls : List (List T3)) (bd : Nat) : ∀ k, ((boS xs ls bd k).Pairwise fun x y => tM x < tM y) ∧ ∀ p ∈ boS xs ls bd k, tM p < (k : Int)
  | 0 => ⟨List.Pairwise.nil, by simp [boS]⟩
  | k + 1 => by
    obtain ⟨h1, h2⟩ := boS_tags xs ls bd k
    rw [boS]
    split
    · refine ⟨List.pairwise_append.2 ⟨h1, List.pairwise_singleton _ _, fun a ha b hb => ?_⟩, fun p hp => ?_⟩
      · rw [List.mem_singleton] at hb; subst hb; exact h2 a ha
      · rcases List.mem_append.1 hp with hp | hp
        · have := h2 p hp; omega
        · rw [List.mem_singleton] at hp; subst hp; show (k : Int) < _; omega
    · exact ⟨h1, fun p hp => by have := h2 p hp; omega⟩
def boL (xs : List T3) (ls : List (List T3)) (band : Int) : List Int := if srE xs ls band = 0 then (srtM (boS xs ls band.toNat ls.length)).map (·.1) else []
theorem boL_bad {xs : List T3} {ls : List (List T3)} {band : Int} (h : ¬ srE xs ls band = 0) : boL xs ls band = [] := if_neg h
theorem boL_ok {xs : List T3} {ls : List (List T3)} {bd m : Nat} (h : srE xs ls (bd : Int) = 0) (hm : ls.length = m) : boL xs ls (bd : Int) = (srtM (boS xs ls bd m)).map (·.1) := by unfold boL; rw [if_pos h, hm]; rfl
theorem flat_c1B (zs : List Int) : zs.flatMap c1 = zs.map (Value.int .i64) := by
  induction zs with
  | nil => rfl
  | cons a l ih => rw [List.map_cons, List.flatMap_cons, ih]; rfl
/-- The numbers as they stand in the row, with what the bounds say of them. -/
theorem fin_of {m : Nat} {bs : List Int} : ∀ (l : List T2), (∀ p ∈ l, ∃ i : Nat, p.1 = (i : Int) ∧ i < m ∧ bs.getD i 0 = p.2) → ∃ F : List (Fin m), F.map (fun x => (((x.val : Nat) : Int), kyO bs x)) = l
  | [], _ => ⟨[], rfl⟩
  | p :: l, h => by
    obtain ⟨F, hF⟩ := fin_of l (fun q hq => h q (List.mem_cons_of_mem _ hq))
    obtain ⟨i, e1, hi, e2⟩ := h p List.mem_cons_self
    refine ⟨⟨i, hi⟩ :: F, ?_⟩
    rw [List.map_cons, hF]
    congr 1
    exact Prod.ext e1.symm e2
theorem flat_cO {m : Nat} {bs : List Int} : ∀ F : List (Fin m), F.flatMap cO = ((F.map (fun x => (((x.val : Nat) : Int), kyO bs x))).map (·.1)).flatMap c1
  | [] => rfl
  | x :: F => by rw [List.flatMap_cons, List.map_cons, List.map_cons, List.flatMap_cons, ← flat_cO F]; rfl
/-- What the sort of the numbers leaves. -/
theorem bo_sorted {m : Nat} {bs : List Int} {l : List T2} {F C : List (Fin m)} (tg : l.Pairwise fun x y => tM x < tM y) (hF : F.map (fun x => (((x.val : Nat) : Int), kyO bs x)) = l) (sC : Sd (kyO bs) tgO C) (pC : C.Perm F) :
    C.flatMap cO = ((srtM l).map (·.1)).flatMap c1 := by
  rw [flat_cO (bs := bs) C]
  have h1 : Sd kM tM (C.map (fun x => (((x.val : Nat) : Int), kyO bs x))) := List.pairwise_map.2 sC
  rw [srt_is tg h1 (hF ▸ pC.map _)]
theorem bo_tags {m : Nat} {bs : List Int} {l : List T2} {F : List (Fin m)} (tg : l.Pairwise fun x y => tM x < tM y) (hF : F.map (fun x => (((x.val : Nat) : Int), kyO bs x)) = l) : F.Pairwise fun x y => tgO x < tgO y := by
  rw [← hF] at tg
  exact (List.pairwise_map (R := fun x y : T2 => tM x < tM y)).1 tg
theorem own_heap {w w' : World} {base e s n c : Nat} {A : Option Addr} {xs : List Value} (h : w.ownsRow base e s (.slice A n c) n xs) (hh : ∀ g, A = some ⟨g, 0, none⟩ → w'.heap[g]? = w.heap[g]?) : w'.ownsRow base e s (.slice A n c) n xs := by
  obtain ⟨h1, h2⟩ := h
  refine ⟨h1, ?_⟩
  rcases h2 with h2 | ⟨g, cap, cur, hv, hg, hh2, r⟩
  · exact .inl h2
  · cases hv; exact .inr ⟨g, c, cur, rfl, hg, (hh g rfl).trans hh2, r⟩
theorem putI {w : World} {base g n c i : Nat} {e : TypeId} {xs : List Int} (h : w.ownsRow base e 1 (.slice (some ⟨g, 0, none⟩) n c) n (xs.flatMap c1)) (v : Int) :
    (w.setCell ⟨g, i, none⟩ (.int .i64 v)).ownsRow base e 1 (.slice (some ⟨g, 0, none⟩) n c) n ((xs.set i v).flatMap c1) := by
  have h1 := (h.stored i (.int .i64 v)).1
  rw [flat_c1B, ← List.map_set, ← flat_c1B] at h1
  exact h1
theorem Blk.belowO {w w' : World} {B g : Nat} {t : TypeId} {cs : Array Value} (h : Blk w g t cs) (hb : Below B w w') (hg : g < B) : Blk w' g t cs := (hb.block g hg).trans h
theorem RdL.lowB {w : World} {B B' g n c : Nat} {xs : List Int} (h : RdL c1 1 w B (some ⟨g, 0, none⟩) n c xs) (hg : g < B') : RdL c1 1 w B' (some ⟨g, 0, none⟩) n c xs := by
  obtain ⟨e1, e2, e3, e4, e5⟩ := h
  refine ⟨e1, e2, e3, e4, fun h0 => ?_⟩
  obtain ⟨b, off, e, _, hc⟩ := e5 h0
  cases e
  exact ⟨g, 0, rfl, hg, hc⟩
theorem bs_step {m k : Nat} {bs : List Int} {l : List T2} {v : Int} (hl : bs.length = m) (hk : k < m) (h : ∀ p ∈ l, ∃ i : Nat, p.1 = (i : Int) ∧ i < k ∧ bs.getD i 0 = p.2) :
    ∀ p ∈ l ++ [((k : Int), v)], ∃ i : Nat, p.1 = (i : Int) ∧ i < k + 1 ∧ (bs.set k v).getD i 0 = p.2 := by
  intro p hp
  rcases List.mem_append.1 hp with hp | hp
  · obtain ⟨i, e1, hi, e2⟩ := h p hp
    refine ⟨i, e1, by omega, ?_⟩
    rw [List.getD_eq_getElem?_getD, List.getElem?_set_ne (by omega), ← List.getD_eq_getElem?_getD]; exact e2
  · rw [List.mem_singleton] at hp; subst hp
    exact ⟨k, rfl, by omega, by rw [List.getD_eq_getElem?_getD, List.getElem?_set_self (by omega)]; rfl⟩
set_option maxRecDepth 100000 in
set_option maxHeartbeats 8000000 in
theorem iBoundOrder_any (A B : Option Addr) (n ca m cb : Nat) (xs : List T3) (ls : List (List T3)) (band : Int) (w : World) (hr : RdL c3 3 w w.heap.size A n ca xs) (hs : NL w w.heap.size B m cb ls) (hn : n ≤ 1048576) (hm : totL ls ≤ 1048576) :
    Calls Try.prog 21 #[.slice A n ca, .slice B m cb, .int .i64 band] w fun e w' => ∃ A' n' c', e = .returned (.tuple #[.slice A' n' c', .int .i64 (srE xs ls band)]) ∧ w'.ownsRow w.heap.size 2 1 (.slice A' n' c') n' ((boL xs ls band).flatMap c1) ∧
      (boL xs ls band).length = n' ∧ n' ≤ 1048576 ∧ Below w.heap.size w w' := by
  obtain ⟨i0, hi, hz0, hz1, hz2⟩ := info_parts Try.infoInt64
  have hl := Lib.hid hs.len
  have hlx := Lib.hid hr.len
  go_enter Try.func21, Try.ntmps21
  go_wp2_with fail
  with_reducible refine (searchable_any _ _ _ _ _ _ xs ls band _ hr hs hn hm).mono ?_
  rintro e w1 ⟨rfl, hbw1⟩
  replace hr := hr.on hbw1
  replace hs := hs.on hbw1
  by_cases hc : srE xs ls band = 0
  · obtain ⟨V1, V2, V3, V4, V5⟩ := srE_inv hc
    obtain ⟨bd, rfl⟩ := Int.eq_ofNat_of_zero_le V4
    rw [hl.out] at V2
    have HR := Lib.hid hr
    have HS := Lib.hid hs
    have V1 := Lib.hid V1
    have V3 := Lib.hid V3
    have HC := Lib.hid hc
    rw [hc]
    clear hr hs
    clear hc
    have hm9 : m ≤ 1048576 := by omega
    go_wp2_with (refine wpList_make_full _ rfl _ _ _ rfl w1.heap.size 2 i0 _ 1 Try.underlying26 hi hz0 hz1 .i64 .i64 m m m rfl rfl rfl rfl (by rw [hz2]; omega) (by unfold maxLen; omega) (Nat.le_refl _) ?_; intro w2 hown hg)
    rw [made1] at hown
    have hb2 : Below w1.heap.size w1 w2 := (Below.refl _ _).grown hg (Nat.le_refl _) (fun k h => by cases h)
    rw [Nat.mul_one, show List.replicate m (Value.int .i64 0) = (List.replicate m (0 : Int)).flatMap c1 by rw [flat_c1B, List.map_replicate]] at hown
    have h12 := (hown.lt w1.heap.size rfl).2
    have HOB := Lib.hid hown
    clear hown hg
    go_wp2_with fail
    have KB := Blk.new (w2) 26 #[.slice (some ⟨w1.heap.size, 0, none⟩) m m]
    have hbv : Below (w2).heap.size (w2) ((w2).alloc (.cells #[.slice (some ⟨w1.heap.size, 0, none⟩) m m] 26)) := (Below.refl _ _).alloc (Nat.le_refl _) _
    generalize (w2).alloc (.cells #[.slice (some ⟨w1.heap.size, 0, none⟩) m m] 26) = v at *
    have hv2 : w2.heap.size < v.heap.size := KB.lt
    have hv1 : w1.heap.size < v.heap.size := by omega
    have HOV := Lib.hid (own_below HOB.out hbv)
    have hbV := Lib.hid (below_app hb2 hbv hb2.size)
    clear HOB hb2 hbv
    go_loopw [9, 25] (fun q i wr => ∃ (k n2 c2 : Nat) (A2 : Option Addr) (bs : List Int), i = .int .i64 k ∧ k ≤ m ∧ q = .slice A2 n2 c2 ∧ Below w1.heap.size w1 wr ∧ v.heap.size ≤ wr.heap.size ∧ Blk wr w2.heap.size 26 #[.slice (some ⟨w1.heap.size, 0, none⟩) m m] ∧ Hid (wr.ownsRow w1.heap.size 2 1 (.slice (some ⟨w1.heap.size, 0, none⟩) m m) m (bs.flatMap c1)) ∧ Hid (bs.length = m) ∧ Hid (∀ p ∈ boS xs ls bd k, ∃ i : Nat, p.1 = (i : Int) ∧ i < k ∧ bs.getD i 0 = p.2) ∧ Hid (wr.ownsRow v.heap.size 2 1 (.slice A2 n2 c2) n2 (((boS xs ls bd k).map (·.1)).flatMap c1)) ∧ Hid ((boS xs ls bd k).length = n2) ∧ n2 ≤ k) (fun _ i _ => m - (intOf i).toNat)
    case atStart => exact ⟨0, 0, 0, none, List.replicate m 0, rfl, by omega, rfl, hbV.out, Nat.le_refl _, KB, HOV.out, List.length_replicate, fun p hp => by simp [boS] at hp, World.ownsRow_nil _ _ _ _, rfl, by omega⟩
    case round =>
      clear KB HOV hbV
      obtain ⟨k, n2, c2, A2, bs, rfl, hk, rfl, hb, hvr, K9, HOB, hbl, hbs, HO, hln, hnk⟩ := hrel
      have hsz := hb.size
      by_cases hlt : k < m
      · obtain ⟨b, off, B', n', cb', x, rfl, hbL1, hx, q01, hx3⟩ := HS.out.at_ hlt
        have q0 : wr.cell? ⟨b, off + k, none⟩ = some (.slice B' n' cb') := (hb.cell (p := ⟨b, off + k, none⟩) hbL1).trans q01
        have hbL : b < wr.heap.size := Nat.lt_of_lt_of_le hbL1 hsz
        have i1 : (k : Int) < (m : Int) := by omega
        have i2 : (0 : Int) ≤ (k : Int) := by omega
        have hxn := tot_in hm hx.out hx3.len
        have VX := Lib.hid (V3.out k x hx.out)
        have HX := Lib.hid hx3
        have hxl := Lib.hid hx3.len
        clear hx3 q01
        cases hbd : bandOk n n' (bd : Int) with
        | false =>
          have HT := Lib.hid (boS_off hlx.out hx.out hxl.out hbd)
          have HBd := Lib.hid hbd
          clear hbd
          go_wp2_with (first | (go_at_call 51; with_reducible refine (isBand_any _ _ _ _ hn hxn).mono ?_; rintro e w' ⟨rfl, rfl⟩; rw [HBd.out]))
          exact ⟨⟨k + 1, n2, c2, A2, bs, by go_num, by omega, rfl, hb, hvr, K9, HOB.out, hbl.out, by rw [HT.out]; intro p hp; obtain ⟨i, e1, e2, e3⟩ := hbs.out p hp; exact ⟨i, e1, by omega, e3⟩, by rw [HT.out]; exact HO.out, by rw [HT.out]; exact hln.out, by omega⟩, by simp [intOf]; omega⟩
        | true =>
          have HT := Lib.hid (boS_in hlx.out hx.out hxl.out hbd)
          have HBd := Lib.hid hbd
          clear hbd
          go_wp2_with (first | (go_at_call 51; with_reducible refine (isBand_any _ _ _ _ hn hxn).mono ?_; rintro e w' ⟨rfl, rfl⟩; rw [HBd.out]) | (at_builtin; with_reducible refine app_one _ c1_len one1 rfl (.tmp 36) (.tmp 38) 26 rfl v.heap.size 2 i0 _ Try.underlying26 hi hz0 hz1 hz2 rfl (by decide) (by decide) A2 n2 c2 _ rfl (HO.out.alloc _) wr.heap.size 1 (k : Int) rfl ?_ (by omega) ?_ ?_))
          · exact news1 (Blk.cel (Blk.new _ _ _)).cell
          · simp; omega
          · intro A4 c4 w4 hw4 hbw4
            have B4 : Below v.heap.size wr w4 := ((Below.refl _ _).alloc hvr _).trans hbw4
            have hb4 := hb.trans (B4.mono (Nat.le_of_lt hv1))
            have hsz4 := B4.size
            have K4 := K9.belowO B4 hv2
            have HOB4 := Lib.hid (own_heap HOB.out (w' := w4) (fun g hg => by cases hg; exact B4.block _ hv1))
            have HO4 := Lib.hid hw4
            have HX4 := Lib.hid (HX.out.on hb4)
            have HA4 := Lib.hid (HR.out.on hb4)
            have H4 := Lib.hid hb4
            have hz4 := hb4.size
            have kb0 := K4.cell 0
            simp only [List.getElem?_toArray, List.getElem?_cons_zero] at kb0
            have zb := K4.lt
            clear hw4 hbw4 B4 hb4 K9 HOB HO hb q0
            go_wp2_with fail
            have hgg : w2.heap.size ≠ w1.heap.size := by omega
            go_region_held3 (fun w' => (∀ b o, b < w1.heap.size → w'.cell? ⟨b, o, none⟩ = w4.cell? ⟨b, o, none⟩) ∧ Below w1.heap.size w4 w' ∧ w'.cell? ⟨w2.heap.size, 0, none⟩ = some (.slice (some ⟨w1.heap.size, 0, none⟩) m m)) (first | exact ⟨(sk2 (Below.refl _ _).drew).1, (Below.refl _ _).drew, kb0⟩ | (go_split_ands; first | (have h9 : Below w1.heap.size w4 w5 := below_app (Below.refl _ _).drew hbw5 hz4; exact ⟨(sk2 h9).1, h9, kb5⟩) | (have h9 := Below.setCell (below_app (Below.refl _ _).drew hbw5 hz4) (p := ⟨w1.heap.size, k, none⟩) (Nat.le_refl _) (.int .i64 (lbndV xs x bd)); exact ⟨(sk2 h9).1, h9, kb6⟩))) (first | (go_at_call 52; with_reducible refine (lowerBound_any _ _ _ _ _ _ xs x bd _ (HA4.out.on ((Below.refl _ _).drew)) (HX4.out.on ((Below.refl _ _).drew)) V1.out VX.out HBd.out).mono ?_; rintro e w5 ⟨rfl, hbw5⟩; have ho5 := own_below (own_below HOB4.out ((Below.refl _ _).drew)) hbw5; obtain ⟨⟨v1, e1⟩, f1⟩ := own_cell ho5 (j := k) (by omega); have K5 := (K4.drew).on hbw5; have kb5 : w5.cell? ⟨w2.heap.size, 0, none⟩ = some (.slice (some ⟨w1.heap.size, 0, none⟩) m m) := (by have h := K5.cell 0; simpa using h); have kb6 : (w5.setCell ⟨w1.heap.size, k, none⟩ (.int .i64 (lbndV xs x bd))).cell? ⟨w2.heap.size, 0, none⟩ = some (.slice (some ⟨w1.heap.size, 0, none⟩) m m) := (by have h := (K5.far (p := ⟨w1.heap.size, k, none⟩) hgg (.int .i64 (lbndV xs x bd))).cell 0; simpa using h)))
            have O5 := Lib.hid (own_below (own_below HO4.out ((Below.refl _ _).drew)) hbw5)
            have H5 := Lib.hid (below_app (H4.out.trans ((Below.refl _ _).drew.mono hz4)) hbw5 hz4)
            have HP := Lib.hid (putI (i := k) ho5 (lbndV xs x bd))
            have K6 := K5.far (p := ⟨w1.heap.size, k, none⟩) hgg (.int .i64 (lbndV xs x bd))
            have hz5 : w4.heap.size ≤ w5.heap.size := hbw5.size
            have HL6 : Hid ((bs.set k (lbndV xs x bd)).length = m) := by show _ = _; rw [List.length_set]; exact hbl.out
            have HO6 : Hid ((w5.setCell ⟨w1.heap.size, k, none⟩ (.int .i64 (lbndV xs x bd))).ownsRow v.heap.size 2 1 (.slice A4 (n2 + 1) c4) (n2 + 1) (((boS xs ls bd (k + 1)).map (·.1)).flatMap c1)) := by
              show World.ownsRow _ _ _ _ _ _ _
              rw [HT.out, List.map_append, List.flatMap_append]
              refine own_heap O5.out (fun g hg => Below.heap_setCell _ _ _ _ ?_)
              have h9 := (O5.out.lt g (by rw [hg]; rfl)).1
              show g ≠ w1.heap.size
              omega
            have HBS : Hid (∀ p ∈ boS xs ls bd (k + 1), ∃ i : Nat, p.1 = (i : Int) ∧ i < k + 1 ∧ (bs.set k (lbndV xs x bd)).getD i 0 = p.2) := by
              show ∀ p ∈ _, _
              rw [HT.out]; exact bs_step hbl.out hlt hbs.out
            clear ho5 e1 f1 kb0 kb5 kb6 K5 hbw5 K4 HOB4 HO4 O5
            go_wp2_with fail
            exact ⟨⟨k + 1, n2 + 1, c4, A4, bs.set k (lbndV xs x bd), by go_num, by omega, rfl, H5.out.setCell (Nat.le_refl _) _, by simp; omega, K6, HP.out, HL6.out, HBS.out, HO6.out, by rw [HT.out, List.length_append, hln.out]; rfl, by omega⟩, by simp [intOf]; omega⟩
      · have hkm : k = m := by omega
        subst hkm
        obtain ⟨tg, _⟩ := boS_tags xs ls bd k
        obtain ⟨F, hF⟩ := fin_of (m := k) (bs := bs) (boS xs ls bd k) hbs.out
        have HFO : Hid (wr.ownsRow v.heap.size 2 1 (.slice A2 n2 c2) n2 (F.flatMap cO)) := by
          show World.ownsRow _ _ _ _ _ _ _
          rw [flat_cO (bs := bs) F, hF]; exact HO.out
        have HFL : Hid (F.length = n2) := by show _ = _; rw [← hln.out, ← hF, List.length_map]
        have HTG := Lib.hid (bo_tags tg hF)
        have HFF := Lib.hid hF
        have HTT := Lib.hid tg
        have kb := K9.cell 0
        have HBO : Hid (BOk wr v.heap.size w2.heap.size w1.heap.size k k bs) := ⟨hv2, hvr, by simpa using kb, (RdL.of_own hbl.out HOB.out).lowB hv1⟩
        have HBw := Lib.hid (below_on (hb.mono (Nat.le_refl _)) hbw1)
        clear tg hF kb HOB HO hbs K9
        go_wp2_with fail
        with_reducible refine (sortStableO_any A2 n2 c2 v.heap.size F wr HFO.out HFL.out HTG.out (by omega) hvr HBO).mono ?_
        rintro e w6 ⟨rfl, C, ho6, sC, pC, hb6⟩
        have HC6 : Hid (w6.ownsRow w.heap.size 2 1 (.slice A2 n2 c2) n2 ((boL xs ls (bd : Int)).flatMap c1)) := by
          show World.ownsRow _ _ _ _ _ _ _
          rw [boL_ok HC.out hl.out, ← bo_sorted HTT.out HFF.out sC pC]
          exact own_mono ho6.out (by have := hbw1.size; omega)
        have HL6 : Hid ((boL xs ls (bd : Int)).length = n2) := by show _ = _; rw [boL_ok HC.out hl.out, List.length_map, srtM_len]; exact hln.out
        have HB6 := Lib.hid (HBw.out.trans (hb6.mono (by have := hbw1.size; omega)))
        clear ho6 sC pC hb6
        go_wp2
        go_ret2
        rw [HC.out]
        exact ⟨A2, n2, c2, rfl, HC6.out, HL6.out, by omega, HB6.out⟩
  · have F := Lib.hid (boL_bad hc)
    have hc2 : (srE xs ls band == 0) = false := by simp; exact hc
    clear hr hs
    go_wp2
    go_ret2
    rw [F.out]
    exact ⟨none, 0, 0, rfl, World.ownsRow_nil _ _ _ _, rfl, by decide, hbw1⟩
end Go.Proofs.Ytkldejbhhbgefaa
