/- The k nearest templates, in order: plain law, the program's side. -/
import Derived.Test.YtkldejbhhbgefaaUz
import Derived.Test.YtkldejbhhbgefaaMa
import Derived.Test.YtkldejbhhbgefaaSu
import Derived.IntWalk
import Derived.Lib.SliceRun
namespace Go.Proofs.Ytkldejbhhbgefaa
open Go.ChangeShapes Go.WideShapes Go.ChangeAt Go.RowKit
set_option linter.unusedVariables false
set_option linter.unusedSimpArgs false
def leK (p q : T2) : Bool := decide (kM p ≤ kM q)
theorem slotK_no {l : List T2} {v : T2} {k : Nat} {y : T2} (hy : l[k]? = some y) (h : kM v < kM y) : slotR leK l v (k + 1) = slotR leK l v k := by
  rw [slotR, getD_of hy, if_neg]; unfold leK; simp; omega
theorem slotK_yes {l : List T2} {v : T2} {k : Nat} {y : T2} (hy : l[k]? = some y) (h : kM y ≤ kM v) : slotR leK l v (k + 1) = k + 1 := by
  rw [slotR, getD_of hy, if_pos]; unfold leK; simp; omega
theorem insK_of {l : List T2} {v : T2} {k n : Nat} (hl : l.length = n) (h : slotR leK l v n = k) : insR leK l v = l.take k ++ v :: l.drop k := by unfold insR; rw [hl, h]
def srtM (xs : List T2) : List T2 := xs.foldl (insR leK) []
def insM (xs : List T2) (k : Nat) : List T2 := srtM (xs.take k)
theorem insM_step {xs : List T2} {k : Nat} {v : T2} (h : xs[k]? = some v) : insM xs (k + 1) = insR leK (insM xs k) v := fold_step (f := insR leK) h
theorem insM_zero (xs : List T2) : insM xs 0 = [] := rfl
theorem fold_len : ∀ (xs acc : List T2), (xs.foldl (insR leK) acc).length = acc.length + xs.length
  | [], acc => rfl
  | x :: xs, acc => by rw [List.foldl_cons, fold_len xs, insR_len, List.length_cons]; omega
theorem srtM_len (xs : List T2) : (srtM xs).length = xs.length := by unfold srtM; rw [fold_len]; simp
theorem insM_len {xs : List T2} {k : Nat} (h : k ≤ xs.length) : (insM xs k).length = k := by unfold insM; rw [srtM_len, List.length_take]; omega
theorem insM_all {xs : List T2} {n : Nat} (h : xs.length = n) : insM xs n = srtM xs := by unfold insM; rw [List.take_of_length_le (by omega)]
theorem mtS_tags (xs : List T3) (ts : List TV) (z : Int) : ∀ k, ((mtS xs ts z k).Pairwise fun x y => tM x < tM y) ∧ ∀ p ∈ mtS xs ts z k, tM p < (k : Int)
  | 0 => ⟨List.Pairwise.nil, by simp [mtS]⟩
  | k + 1 => by
    obtain ⟨h1, h2⟩ := mtS_tags xs ts z k
    rw [mtS]
    split
    · refine ⟨List.pairwise_append.2 ⟨h1, List.pairwise_singleton _ _, fun a ha b hb => ?_⟩, fun p hp => ?_⟩
      · rw [List.mem_singleton] at hb; subst hb; exact h2 a ha
      · rcases List.mem_append.1 hp with hp | hp
        · have := h2 p hp; omega
        · rw [List.mem_singleton] at hp; subst hp; show (k : Int) < _; omega
    · exact ⟨h1, fun p hp => by have := h2 p hp; omega⟩
theorem srt_is {l C : List T2} (tg : l.Pairwise fun x y => tM x < tM y) (h : Sd kM tM C) (p : C.Perm l) : C = srtM l := by
  obtain ⟨h1, h2⟩ := fold_stable (key := kM) (tag := tM) l [] List.Pairwise.nil (fun x hx => by simp at hx) tg
  rw [List.nil_append] at h2
  exact sd_unique h h1 (p.trans h2.symm)
theorem take2 {ls : List T2} (m : Nat) : (ls.flatMap c2).take (m * 2) = (ls.take m).flatMap c2 := (flat_take c2_len ls m).symm
theorem own_less2 {w : World} {base e n m c : Nat} {A : Option Addr} {xs : List T2} (h : w.ownsRow base e 2 (.slice A n c) n (xs.flatMap c2)) (hn : m ≤ n) (h0 : 0 < n) : w.ownsRow base e 2 (.slice A m c) m ((xs.take m).flatMap c2) := by
  obtain ⟨g, rfl, _, _⟩ := own_at h h0
  rw [← take2]
  rcases h.2 with ⟨hv, _⟩ | ⟨g', cap, cur, hv, hg, hh, h1, h2, h3, h4⟩
  · cases hv
  · cases hv
    have h5 : m * 2 ≤ n * 2 := Nat.mul_le_mul_right 2 hn
    refine ⟨by rw [List.length_take, h.1]; omega, .inr ⟨g, c, cur, rfl, hg, hh, by omega, h2, h3, ?_⟩⟩
    rw [← h4, List.take_take, Nat.min_eq_left h5]
theorem own_cap {w : World} {base e n c s : Nat} {A : Option Addr} {vs : List Value} (h : w.ownsRow base e s (.slice A n c) n vs) (h0 : 0 < n) : n ≤ c := by
  obtain ⟨g, rfl, _, _⟩ := own_at h h0
  rcases h.2 with ⟨hv, _⟩ | ⟨g', cap, cur, hv, hg, hh, h1, h2, h3, h4⟩
  · cases hv
  · cases hv; exact h1
def nrS (kk : Int) (l : List T2) : List T2 := (srtM l).take (min kk (l.length : Int)).toNat
def nrE (z : Int) (ts : List TV) (xs : List T3) (kk : Int) : Int := if (storeB z ts && featsOk 72 xs) = true then (if inB 1 40 kk = true then 0 else 2) else 1
def nrL (z : Int) (ts : List TV) (xs : List T3) (kk : Int) : List T2 := if (storeB z ts && featsOk 72 xs) = true then (if inB 1 40 kk = true then nrS kk (mtS xs ts z ts.length) else []) else []
theorem nr_bad {z : Int} {ts : List TV} {xs : List T3} {kk : Int} (h : (storeB z ts && featsOk 72 xs) = false) : nrE z ts xs kk = 1 ∧ nrL z ts xs kk = [] := by unfold nrE nrL; rw [h]; exact ⟨rfl, rfl⟩
theorem nr_bad2 {z : Int} {ts : List TV} {xs : List T3} {kk : Int} (h : storeB z ts = true) (h' : featsOk 72 xs = true) (h2 : inB 1 40 kk = false) : nrE z ts xs kk = 2 ∧ nrL z ts xs kk = [] := by unfold nrE nrL; rw [h, h', h2]; exact ⟨rfl, rfl⟩
theorem nr_ok {z : Int} {ts : List TV} {xs : List T3} {kk : Int} (h : storeB z ts = true) (h' : featsOk 72 xs = true) (h2 : inB 1 40 kk = true) : nrE z ts xs kk = 0 ∧ nrL z ts xs kk = nrS kk (mtS xs ts z ts.length) := by unfold nrE nrL; rw [h, h', h2]; exact ⟨rfl, rfl⟩
theorem nrS_len (kk : Int) (l : List T2) : (nrS kk l).length ≤ l.length := by unfold nrS; rw [List.length_take, srtM_len]; omega
theorem nrS_all {kk : Int} {l : List T2} (h : l.length = 0) : nrS kk l = [] := List.eq_nil_of_length_eq_zero (by have := nrS_len kk l; omega)
set_option maxRecDepth 100000 in
set_option maxHeartbeats 8000000 in
theorem nearest_any (z kk : Int) (A B : Option Addr) (n ca m cb : Nat) (ts : List TV) (xs : List T3) (w : World) (hs : TL w w.heap.size A m cb ts) (hr : RdL c3 3 w w.heap.size B n ca xs) (hm : totT ts ≤ 1048576) (hn : n ≤ 1048576) (V0 : storeB z ts = true) (V1 : featsOk 72 xs = true) (k1 : 1 ≤ kk) (k2 : kk ≤ 40) :
    Calls Try.prog 60 #[.agg #[.int .i64 z, .slice A m cb], .slice B n ca, .int .i64 kk] w fun e w' => ∃ A' n' c', e = .returned (.slice A' n' c') ∧ w'.ownsRow w.heap.size 92 2 (.slice A' n' c') n' ((nrS kk (mtS xs ts z m)).flatMap c2) ∧
      (nrS kk (mtS xs ts z m)).length = n' ∧ Below w.heap.size w w' := by
  have hl := Lib.hid hs.len
  have hm40 : m ≤ 40 := by have h := storeB_len V0; rw [hl.out] at h; exact h
  have HV0 := Lib.hid V0
  have HV1 := Lib.hid V1
  have HM := Lib.hid hm
  clear hm V0 V1
  go_enter Try.func60, Try.ntmps60
  go_wp2_with fail
  have K0 := Blk.new (w) 31 #[.int .i64 z, .slice A m cb]
  have hbv : Below (w).heap.size (w) ((w).alloc (.cells #[.int .i64 z, .slice A m cb] 31)) := (Below.refl _ _).alloc (Nat.le_refl _) _
  replace hs := hs.on hbv
  replace hr := hr.on hbv
  generalize (w).alloc (.cells #[.int .i64 z, .slice A m cb] 31) = v at *
  have kc0 := K0.cell 0
  have kc1 := K0.cell 1
  simp only [List.getElem?_toArray, List.getElem?_cons_succ, List.getElem?_cons_zero] at kc0 kc1
  have kz := K0.lt
  go_wp2_with fail
  go_wp2_with fail
  with_reducible refine (matchesOf_any z _ _ _ _ _ _ ts xs _ hs hr HM.out hn HV0.out HV1.out).mono ?_
  rintro e w1 ⟨A', n', c', rfl, ow, lw, hb1⟩
  clear kc0 kc1 kz K0 hs hr
  obtain ⟨tg, _⟩ := mtS_tags xs ts z m
  have hlen := mtS_len xs ts z m
  have hsz := hbv.size
  obtain ⟨l, hml⟩ : ∃ l, mtS xs ts z m = l := ⟨_, rfl⟩
  rw [hml] at ow lw tg hlen
  have HML := Lib.hid hml
  have HO := Lib.hid (own_mono ow hsz)
  have HB := Lib.hid (below_on hb1 hbv)
  have HL := Lib.hid lw
  have HT := Lib.hid tg
  have hn40 : n' ≤ 40 := by omega
  have hbs : w.heap.size ≤ w1.heap.size := HB.out.size
  clear ow lw hb1 hbv hsz tg hlen hml
  go_wp2_with fail
  with_reducible refine (sortStable_any A' n' c' w.heap.size l w1 HO.out HL.out HT.out hn40 hbs).mono ?_
  rintro e w2 ⟨rfl, C, ho2, sC, pC, hb2⟩
  have HC : Hid (C = srtM l) := srt_is HT.out sC pC
  have O2 := Lib.hid ho2.out
  have HB2 := Lib.hid (HB.out.trans hb2)
  clear ho2 sC pC hb2
  obtain ⟨q, hq⟩ : ∃ q : Nat, min kk (n' : Int) = (q : Int) := ⟨(min kk (n' : Int)).toNat, by omega⟩
  have HQ := Lib.hid hq
  have HX : Hid (nrS kk l = C.take q) := by show _ = _; unfold nrS; rw [HC.out, HL.out, hq]; rfl
  have hqn : q ≤ n' := by omega
  rcases Nat.eq_zero_or_pos n' with h0 | h0
  · subst h0
    have hq0 : q = 0 := by omega
    subst hq0
    have hm0 : min kk 0 = 0 := by omega
    have OX : Hid (w2.ownsRow w.heap.size 92 2 (.slice A' 0 c') 0 ((C.take 0).flatMap c2)) := by
      have hC0 : C.length = 0 := by rw [HC.out, srtM_len]; exact HL.out
      have := O2.out; rw [List.eq_nil_of_length_eq_zero hC0] at this ⊢; exact this
    clear hq
    go_wp2
    go_ret
    rw [HML.out, HX.out]
    exact ⟨A', 0, c', rfl, OX.out, rfl, HB2.out⟩
  · have hqc : q ≤ c' := by have := own_cap O2.out h0; omega
    have OX := Lib.hid (own_less2 O2.out hqn h0)
    have hcl : (C.take q).length = q := by rw [List.length_take, HC.out, srtM_len, HL.out]; omega
    have i1 : (q : Int) ≤ (c' : Int) := by omega
    have i2 : (0 : Int) ≤ (q : Int) := by omega
    have hcm : c' ≤ maxLen := (RdL.of_own (by rw [HC.out, srtM_len]; exact HL.out) O2.out).capm
    go_wp2
    go_ret
    rw [HML.out, HX.out]
    exact ⟨A', q, c', rfl, OX.out, hcl, HB2.out⟩
end Go.Proofs.Ytkldejbhhbgefaa
