/- Contracts of OutsideOf. -/
import Derived.Test.YtkldejbhhbgefaaEv
import Derived.Test.YtkldejbhhbgefaaMk
import Derived.IntWalk
namespace Go.Proofs.Ytkldejbhhbgefaa
open Go.ChangeShapes Go.WideShapes Go.ChangeAt Go.RowKit
def offI (n lo hi : Int) : Int := max (max (lo - n) (n - hi)) 0
def offK (xs : List T3) (la lb lc ld : List Int) (k : Nat) : Int := offI (xs.getD k (0, 0, 0)).1 (la.getD k 0) (lb.getD k 0) + offI (xs.getD k (0, 0, 0)).2.1 (lc.getD k 0) (ld.getD k 0)
def outV (xs : List T3) (la lb lc ld : List Int) (n : Nat) : Int := (List.range n).foldl (fun s k => s + offK xs la lb lc ld k) 0
theorem outV_step (xs : List T3) (la lb lc ld : List Int) (k : Nat) : outV xs la lb lc ld (k + 1) = outV xs la lb lc ld k + offK xs la lb lc ld k := by unfold outV; rw [List.range_succ, List.foldl_append]; rfl
theorem offI_bd {n lo hi : Int} (h0 : 0 ≤ n) (h1 : n ≤ 255) (h2 : 0 ≤ lo) (h3 : lo ≤ hi) (h4 : hi ≤ 255) : 0 ≤ offI n lo hi ∧ offI n lo hi ≤ 255 := by unfold offI; omega
theorem vlB_at {xs ys : List Int} {k : Nat} {x y : Int} (h : vlB xs ys = true) (hx : xs[k]? = some x) (hy : ys[k]? = some y) : 0 ≤ x ∧ x ≤ y ∧ y ≤ 255 := by
  have hk : k < xs.length := (List.getElem?_eq_some_iff.1 hx).1
  have := rg_at h hk
  rw [getD_of hx, getD_of hy] at this
  unfold lmOk at this
  simp only [Bool.and_eq_true, inB_iff, decide_eq_true_eq] at this
  omega
theorem beyond_any (n lo hi : Int) (w : World) (h0 : 0 ≤ n) (h1 : n ≤ 255) (h2 : 0 ≤ lo) (h3 : lo ≤ hi) (h4 : hi ≤ 255) : Calls Try.prog 107 #[.int .i64 n, .int .i64 lo, .int .i64 hi] w fun e w' => e = .returned (.int .i64 (offI n lo hi)) ∧ w = w' := by
  go_enter Try.func107, Try.ntmps107
  go_wp2
  all_goals
    go_ret
    exact ⟨ret_int (by unfold offI; omega), rfl⟩
theorem l10Off_any (n lo hi : Int) (w : World) (h0 : 0 ≤ n) (h1 : n ≤ 255) (h2 : 0 ≤ lo) (h3 : lo ≤ hi) (h4 : hi ≤ 255) : Calls Try.prog 105 #[.int .i64 n, .int .i64 lo, .int .i64 hi] w fun e w' => e = .returned (.int .i64 (offI n lo hi)) ∧ w = w' := by
  go_enter Try.func105, Try.ntmps105
  go_wp2_with (first | (go_at_call 82; with_reducible refine (l00Max_any _ _ _).mono ?_; rintro e w' ⟨rfl, rfl⟩))
  go_ret
  exact ⟨ret_int (by unfold offI; omega), rfl⟩
set_option maxRecDepth 100000 in
set_option maxHeartbeats 4000000 in
theorem outsideOf_any (Q A B C D : Option Addr) (n cp ca cb cc cd : Nat) (xs : List T3) (la lb lc ld : List Int) (w : World) (hr : RdL c3 3 w w.heap.size Q n cp xs) (ra : RdL c1 1 w w.heap.size A n ca la) (rb : RdL c1 1 w w.heap.size B n cb lb) (rc : RdL c1 1 w w.heap.size C n cc lc) (rd : RdL c1 1 w w.heap.size D n cd ld)
    (hn : n ≤ 72) (hok : featsOk 72 xs = true) (hxy : vlB la lb = true) (hxz : vlB lc ld = true) :
    Calls Try.prog 86 #[.slice Q n cp, .agg #[.slice A n ca, .slice B n cb, .slice C n cc, .slice D n cd]] w fun e w' => e = .returned (.int .i64 (outV xs la lb lc ld n)) ∧ Below w.heap.size w w' := by
  have Hok := Lib.hid hok
  have HX := Lib.hid hxy
  have HZ := Lib.hid hxz
  clear hok hxy hxz
  go_enter Try.func86, Try.ntmps86
  go_wp2_with fail
  have K0 := Blk.new (w) 117 #[.slice A n ca, .slice B n cb, .slice C n cc, .slice D n cd]
  have hbv : Below (w).heap.size (w) ((w).alloc (.cells #[.slice A n ca, .slice B n cb, .slice C n cc, .slice D n cd] 117)) := (Below.refl _ _).alloc (Nat.le_refl _) _
  replace hr := hr.on hbv
  replace ra := ra.on hbv
  replace rb := rb.on hbv
  replace rc := rc.on hbv
  replace rd := rd.on hbv
  generalize (w).alloc (.cells #[.slice A n ca, .slice B n cb, .slice C n cc, .slice D n cd] 117) = v at *
  have hB : Below w.heap.size w v := hbv
  go_loopw [5, 10] (fun s i wr => ∃ (k : Nat) (sm : Int), k ≤ n ∧ i = .int .i64 k ∧ s = .int .i64 sm ∧ 0 ≤ sm ∧ sm ≤ 510 * k ∧ Below v.heap.size v wr ∧ Hid (sm = outV xs la lb lc ld k)) (fun _ i _ => n - (intOf i).toNat)
  case atStart => exact ⟨0, 0, by omega, rfl, rfl, by omega, by omega, Below.refl _ _, rfl⟩
  case round =>
    obtain ⟨k, sm, hk, rfl, rfl, s0, s1, hb, HS⟩ := hrel
    have hbr := below_on hb hB
    by_cases hlt : k < n
    · obtain ⟨b, off, x, y, d, rfl, hbl, hx, q0, q1, q2⟩ := (hr.below hb).at3 hlt
      obtain ⟨b1, off1, lx, rfl, hbl1, h1, a1⟩ := (ra.below hb).at1 hlt
      obtain ⟨b2, off2, hx', rfl, hbl2, h2, a2⟩ := (rb.below hb).at1 hlt
      obtain ⟨b3, off3, ly, rfl, hbl3, h3, a3⟩ := (rc.below hb).at1 hlt
      obtain ⟨b4, off4, hy', rfl, hbl4, h4, a4⟩ := (rd.below hb).at1 hlt
      obtain ⟨⟨hx0, hx1⟩, ⟨hy0, hy1⟩, ⟨hd0, hd1⟩⟩ := featB_iff.1 (show featB x y d = true from all_at (p := featOk) (x := (x, y, d)) (Bool.and_eq_true_iff.1 Hok.out).1 hx.out)
      obtain ⟨u1, u2, u3⟩ := vlB_at HX.out h1.out h2.out
      obtain ⟨u4, u5, u6⟩ := vlB_at HZ.out h3.out h4.out
      have HE : Hid (offK xs la lb lc ld k = offI x lx hx' + offI y ly hy') := by unfold Hid offK; rw [getD_of hx.out, getD_of h1.out, getD_of h2.out, getD_of h3.out, getD_of h4.out]
      have K1 := K0.on hb
      have e0 := K1.cell 0
      have e1 := K1.cell 1
      have e2 := K1.cell 2
      have e3 := K1.cell 3
      simp only [List.getElem?_toArray, List.getElem?_cons_succ, List.getElem?_cons_zero] at e0 e1 e2 e3
      have zk := K1.lt
      have zh := hb.size
      replace hbl1 := Nat.lt_of_lt_of_le hbl1 zh
      replace hbl2 := Nat.lt_of_lt_of_le hbl2 zh
      replace hbl3 := Nat.lt_of_lt_of_le hbl3 zh
      replace hbl4 := Nat.lt_of_lt_of_le hbl4 zh
      have i1 : (k : Int) < (n : Int) := by omega
      have i2 : (0 : Int) ≤ (k : Int) := by omega
      obtain ⟨p0, p1⟩ := offI_bd hx0 hx1 u1 u2 u3
      obtain ⟨p2, p3⟩ := offI_bd hy0 hy1 u4 u5 u6
      have z1 := fun W => beyond_any x lx hx' W hx0 hx1 u1 u2 u3
      have z2 := fun W => beyond_any y ly hy' W hy0 hy1 u4 u5 u6
      have Z1 := Lib.hid z1
      have Z2 := Lib.hid z2
      have o1 : IntKind.i64.wrap (offI x lx hx' + offI y ly hy') = offI x lx hx' + offI y ly hy' := IntWalk.i64_in _ (by omega)
      have o2 : IntKind.i64.wrap (sm + (offI x lx hx' + offI y ly hy')) = sm + (offI x lx hx' + offI y ly hy') := IntWalk.i64_in _ (by omega)
      clear z1 z2 hr ra rb rc rd K0 hB
      go_wp2
      go_quiet ((go_at_call 107; first | (with_reducible exact quiet_left (Z1.out _)) | (with_reducible exact quiet_left (Z2.out _)) | (with_reducible exact quiet_add_left (Z1.out _)) | (with_reducible exact quiet_add_left (Z2.out _))))
      clear o1 o2
      go_wp2
      exact ⟨⟨k + 1, sm + (offI x lx hx' + offI y ly hy'), by omega, by go_num, rfl, by omega, by omega, (by repeat (first | exact Below.refl _ _ | assumption | refine Below.drew ?_ | refine below_drewN ?_ _ | refine Below.alloc ?_ (by first | omega | (simp <;> omega)) _ | refine Below.setCell ?_ (by first | omega | (simp <;> omega)) _)), by unfold Hid; rw [outV_step, HE.out, HS.out]⟩, by simp [intOf]; omega⟩
    · have hkn : k = n := by omega
      subst hkn
      clear hr ra rb rc rd K0
      go_wp2
      go_ret
      exact ⟨ret_int HS.out, hbr⟩
set_option maxRecDepth 100000 in
set_option maxHeartbeats 4000000 in
theorem l10Outside_any (Q A B C D : Option Addr) (n cp ca cb cc cd : Nat) (xs : List T3) (la lb lc ld : List Int) (w : World) (g : Nat) (T : TypeId) (K0 : Blk w g T #[.slice A n ca, .slice B n cb, .slice C n cc, .slice D n cd]) (hr : RdL c3 3 w w.heap.size Q n cp xs) (ra : RdL c1 1 w w.heap.size A n ca la) (rb : RdL c1 1 w w.heap.size B n cb lb) (rc : RdL c1 1 w w.heap.size C n cc lc) (rd : RdL c1 1 w w.heap.size D n cd ld)
    (hn : n ≤ 72) (hok : featsOk 72 xs = true) (hxy : vlB la lb = true) (hxz : vlB lc ld = true) :
    Calls Try.prog 83 #[.slice Q n cp, .pointer (some ⟨g, 0, none⟩)] w fun e w' => e = .returned (.int .i64 (outV xs la lb lc ld n)) ∧ Below w.heap.size w w' := by
  have Hok := Lib.hid hok
  have HX := Lib.hid hxy
  have HZ := Lib.hid hxz
  clear hok hxy hxz
  go_enter Try.func83, Try.ntmps83
  go_wp2_with fail
  have hB : Below w.heap.size w w := Below.refl _ _
  obtain ⟨v, hv⟩ : ∃ v, v = w := ⟨w, rfl⟩
  rw [← hv] at K0 hr ra rb rc rd
  conv at hB => rhs; rw [← hv]
  rw [← hv]
  go_loopw [5, 6] (fun s i wr => ∃ (k : Nat) (sm : Int), k ≤ n ∧ i = .int .i64 k ∧ s = .int .i64 sm ∧ 0 ≤ sm ∧ sm ≤ 510 * k ∧ Below v.heap.size v wr ∧ Hid (sm = outV xs la lb lc ld k)) (fun _ i _ => n - (intOf i).toNat)
  case atStart => exact ⟨0, 0, by omega, rfl, rfl, by omega, by omega, Below.refl _ _, rfl⟩
  case round =>
    obtain ⟨k, sm, hk, rfl, rfl, s0, s1, hb, HS⟩ := hrel
    have hbr := below_on hb hB
    by_cases hlt : k < n
    · obtain ⟨b, off, x, y, d, rfl, hbl, hx, q0, q1, q2⟩ := (hr.below hb).at3 hlt
      obtain ⟨b1, off1, lx, rfl, hbl1, h1, a1⟩ := (ra.below hb).at1 hlt
      obtain ⟨b2, off2, hx', rfl, hbl2, h2, a2⟩ := (rb.below hb).at1 hlt
      obtain ⟨b3, off3, ly, rfl, hbl3, h3, a3⟩ := (rc.below hb).at1 hlt
      obtain ⟨b4, off4, hy', rfl, hbl4, h4, a4⟩ := (rd.below hb).at1 hlt
      obtain ⟨⟨hx0, hx1⟩, ⟨hy0, hy1⟩, ⟨hd0, hd1⟩⟩ := featB_iff.1 (show featB x y d = true from all_at (p := featOk) (x := (x, y, d)) (Bool.and_eq_true_iff.1 Hok.out).1 hx.out)
      obtain ⟨u1, u2, u3⟩ := vlB_at HX.out h1.out h2.out
      obtain ⟨u4, u5, u6⟩ := vlB_at HZ.out h3.out h4.out
      have HE : Hid (offK xs la lb lc ld k = offI x lx hx' + offI y ly hy') := by unfold Hid offK; rw [getD_of hx.out, getD_of h1.out, getD_of h2.out, getD_of h3.out, getD_of h4.out]
      have K1 := K0.on hb
      have e0 := K1.cell 0
      have e1 := K1.cell 1
      have e2 := K1.cell 2
      have e3 := K1.cell 3
      simp only [List.getElem?_toArray, List.getElem?_cons_succ, List.getElem?_cons_zero] at e0 e1 e2 e3
      have zk := K1.lt
      have zh := hb.size
      replace hbl1 := Nat.lt_of_lt_of_le hbl1 zh
      replace hbl2 := Nat.lt_of_lt_of_le hbl2 zh
      replace hbl3 := Nat.lt_of_lt_of_le hbl3 zh
      replace hbl4 := Nat.lt_of_lt_of_le hbl4 zh
      have i1 : (k : Int) < (n : Int) := by omega
      have i2 : (0 : Int) ≤ (k : Int) := by omega
      obtain ⟨p0, p1⟩ := offI_bd hx0 hx1 u1 u2 u3
      obtain ⟨p2, p3⟩ := offI_bd hy0 hy1 u4 u5 u6
      have z1 := fun W => l10Off_any x lx hx' W hx0 hx1 u1 u2 u3
      have z2 := fun W => l10Off_any y ly hy' W hy0 hy1 u4 u5 u6
      have Z1 := Lib.hid z1
      have Z2 := Lib.hid z2
      have o1 : IntKind.i64.wrap (offI x lx hx' + offI y ly hy') = offI x lx hx' + offI y ly hy' := IntWalk.i64_in _ (by omega)
      have o2 : IntKind.i64.wrap (sm + (offI x lx hx' + offI y ly hy')) = sm + (offI x lx hx' + offI y ly hy') := IntWalk.i64_in _ (by omega)
      clear z1 z2 hr ra rb rc rd K0 hB
      go_wp2
      go_quiet ((go_at_call 105; first | (with_reducible exact quiet_left (Z1.out _)) | (with_reducible exact quiet_left (Z2.out _)) | (with_reducible exact quiet_add_left (Z1.out _)) | (with_reducible exact quiet_add_left (Z2.out _))))
      clear o1 o2
      go_wp2
      exact ⟨⟨k + 1, sm + (offI x lx hx' + offI y ly hy'), by omega, by go_num, rfl, by omega, by omega, (by repeat (first | exact Below.refl _ _ | assumption | refine Below.drew ?_ | refine below_drewN ?_ _ | refine Below.alloc ?_ (by first | omega | (simp <;> omega)) _ | refine Below.setCell ?_ (by first | omega | (simp <;> omega)) _)), by unfold Hid; rw [outV_step, HE.out, HS.out]⟩, by simp [intOf]; omega⟩
    · have hkn : k = n := by omega
      subst hkn
      clear hr ra rb rc rd K0
      go_wp2
      go_ret
      exact ⟨ret_int HS.out, hbr⟩
def outF (xs : List T3) (la lb lc ld : List Int) : Int := if (featsOk 72 xs && envB la lb lc ld) = true then (if xs.length = la.length then outV xs la lb lc ld xs.length else 0) else 0
def outE (xs : List T3) (la lb lc ld : List Int) : Int := if (featsOk 72 xs && envB la lb lc ld) = true then (if xs.length = la.length then 0 else 2) else 1
theorem out_bad {xs : List T3} {la lb lc ld : List Int} (h : (featsOk 72 xs && envB la lb lc ld) = false) : outF xs la lb lc ld = 0 ∧ outE xs la lb lc ld = 1 := by
  unfold outF outE; rw [h, if_neg (by decide), if_neg (by decide)]; exact ⟨rfl, rfl⟩
theorem out_len {xs : List T3} {la lb lc ld : List Int} (h : featsOk 72 xs = true) (h' : envB la lb lc ld = true) (hl : xs.length ≠ la.length) : outF xs la lb lc ld = 0 ∧ outE xs la lb lc ld = 2 := by
  unfold outF outE; rw [h, h', Bool.and_self, if_pos rfl, if_pos rfl, if_neg hl, if_neg hl]; exact ⟨rfl, rfl⟩
theorem out_ok {xs : List T3} {la lb lc ld : List Int} (h : featsOk 72 xs = true) (h' : envB la lb lc ld = true) (hl : xs.length = la.length) : outF xs la lb lc ld = outV xs la lb lc ld xs.length ∧ outE xs la lb lc ld = 0 := by
  unfold outF outE; rw [h, h', Bool.and_self, if_pos rfl, if_pos rfl, if_pos hl, if_pos hl]; exact ⟨rfl, rfl⟩
theorem envB_parts {la lb lc ld : List Int} (h : envB la lb lc ld = true) : (1 ≤ (la.length : Int) ∧ (la.length : Int) ≤ 72) ∧ lb.length = la.length ∧ lc.length = la.length ∧ ld.length = la.length ∧ vlB la lb = true ∧ vlB lc ld = true := by
  unfold envB vlN at h
  simp only [Bool.and_eq_true, inB_iff, decide_eq_true_eq] at h
  obtain ⟨⟨h1, ⟨_, h2⟩, h3⟩, ⟨h4, h5⟩, h6⟩ := h
  exact ⟨h1, by omega, by omega, by omega, h3, h6⟩
end Go.Proofs.Ytkldejbhhbgefaa
