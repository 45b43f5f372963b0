/- The place at a part of the length of a stroke: spotAt, l06At. -/
import Derived.Test.YtbfilhpgekgmbaaRc
import Derived.Test.YtbfilhpgekgmbaaSo
import Derived.Test.YtbfilhpgekgmbaaNd
import Derived.Deep.RegionHeld3
import Derived.IntWalk
namespace Go.Proofs.Ytbfilhpgekgmbaa
open Go.ChangeShapes Go.WideShapes Go.ChangeAt Go.RowKit
def goodAt (xs : List T3) (part parts : Int) (k : Nat) : Bool := !decide (arcAt xs k = arcAt xs (k - 1)) && decide (arcAt xs (xs.length - 1) * part ≤ arcAt xs k * parts)
def mixD (p q : T3) (far all : Int) : T2 := (p.1 + nearD ((q.1 - p.1) * far) all, p.2.1 + nearD ((q.2.1 - p.2.1) * far) all)
def spotK (xs : List T3) (part parts : Int) (k : Nat) : T2 := mixD (xs.getD (k - 1) (0, 0, 0)) (xs.getD k (0, 0, 0)) (arcAt xs (xs.length - 1) * part - arcAt xs (k - 1) * parts) ((arcAt xs k - arcAt xs (k - 1)) * parts)
def spotFrom (xs : List T3) (part parts : Int) : Nat → Nat → T2
  | 0, _ => ((xs.getD 0 (0, 0, 0)).1, (xs.getD 0 (0, 0, 0)).2.1)
  | m + 1, k => if goodAt xs part parts k = true then spotK xs part parts k else spotFrom xs part parts m (k + 1)
def spotV (xs : List T3) (part parts : Int) : T2 := spotFrom xs part parts (xs.length - 1) 1
theorem spotFrom_no {xs : List T3} {part parts : Int} {n k : Nat} (hk : k < n) (h : goodAt xs part parts k = false) : spotFrom xs part parts (n - (k + 1)) (k + 1) = spotFrom xs part parts (n - k) k := by
  obtain ⟨m, hm⟩ : ∃ m, n - k = m + 1 := ⟨n - k - 1, by omega⟩
  rw [hm, show n - (k + 1) = m by omega, spotFrom, h]; rfl
theorem spotFrom_yes {xs : List T3} {part parts : Int} {n k : Nat} (hk : k < n) (h : goodAt xs part parts k = true) : spotFrom xs part parts (n - k) k = spotK xs part parts k := by
  obtain ⟨m, hm⟩ : ∃ m, n - k = m + 1 := ⟨n - k - 1, by omega⟩
  rw [hm, spotFrom, if_pos h]
theorem spotFrom_end {xs : List T3} {part parts : Int} {n : Nat} {p : T3} (hp : xs[0]? = some p) : spotFrom xs part parts (n - n) n = (p.1, p.2.1) := by
  rw [Nat.sub_self, spotFrom, getD_of hp]
theorem spotK_of {xs : List T3} {part parts : Int} {k : Nat} {p q : T3} {gl ap ak : Int} (hp : xs[k - 1]? = some p) (hq : xs[k]? = some q) (hg : arcAt xs (xs.length - 1) * part = gl) (ha : arcAt xs (k - 1) = ap) (hb : arcAt xs k = ak) :
    spotK xs part parts k = mixD p q (gl - ap * parts) ((ak - ap) * parts) := by unfold spotK; rw [getD_of hp, getD_of hq, hg, ha, hb]
theorem goodAt_of {xs : List T3} {part parts : Int} {k : Nat} {gl ap ak : Int} (hg : arcAt xs (xs.length - 1) * part = gl) (ha : arcAt xs (k - 1) = ap) (hb : arcAt xs k = ak) : goodAt xs part parts k = (!decide (ak = ap) && decide (gl ≤ ak * parts)) := by unfold goodAt; rw [hg, ha, hb]
theorem mul_in {a b : Int} (M N : Nat) (h0 : -(M : Int) ≤ a) (h1 : a ≤ M) (h2 : -(N : Int) ≤ b) (h3 : b ≤ N) : -((M * N : Nat) : Int) ≤ a * b ∧ a * b ≤ ((M * N : Nat) : Int) := by
  have h := Int.natAbs_mul a b
  have g1 : a.natAbs ≤ M := by omega
  have g2 : b.natAbs ≤ N := by omega
  have g3 := Nat.mul_le_mul g1 g2
  rw [← h] at g3
  omega
theorem mul_pos_le {a b : Int} (M N : Nat) (h0 : 0 ≤ a) (h1 : a ≤ M) (h2 : 0 ≤ b) (h3 : b ≤ N) : 0 ≤ a * b ∧ a * b ≤ ((M * N : Nat) : Int) := ⟨Int.mul_nonneg h0 h2, (mul_in M N (by omega) h1 (by omega) h3).2⟩
theorem nearD_in {n d B : Int} (hB : 0 ≤ B) (hd : 1 ≤ d) (h : -B ≤ n) (h' : n ≤ B) : -B ≤ nearD n d ∧ nearD n d ≤ B + 1 := by
  obtain ⟨h1, h2⟩ := ediv_bd2 hB (show 0 < d by omega) h h'
  unfold nearD; split <;> omega
theorem arc_small {xs : List T3} (h : strokeB xs = true) {k : Nat} {a : Int} (hk : k < xs.length) (ha : arcAt xs k = a) : 0 ≤ a ∧ a ≤ 5559600 := by
  obtain ⟨h1, h2⟩ := arcAt_bd h k hk
  have := strokeB_len h
  omega
theorem arc_up {xs : List T3} (h : strokeB xs = true) {k : Nat} {a b : Int} (hk : k < xs.length) (h0 : 0 < k) (ha : arcAt xs (k - 1) = a) (hb : arcAt xs k = b) : a ≤ b ∧ b - a ≤ 92660 := by
  have hp : xs[k - 1]? = some (xs[k - 1]'(by omega)) := List.getElem?_eq_getElem (by omega)
  have hq : xs[k]? = some (xs[k]'hk) := List.getElem?_eq_getElem hk
  have hs := arcAt_step h0 hp hq
  have V1 := strokeB_at h hp
  have V2 := strokeB_at h hq
  generalize xs[k - 1]'(by omega) = p at *
  generalize xs[k]'hk = q at *
  obtain ⟨x, y, t⟩ := p
  obtain ⟨x', y', t'⟩ := q
  obtain ⟨⟨u0, u1⟩, ⟨u2, u3⟩, _, _⟩ := ptOk_iff.1 V1
  obtain ⟨⟨v0, v1⟩, ⟨v2, v3⟩, _, _⟩ := ptOk_iff.1 V2
  obtain ⟨l0, l1⟩ := lenD_bd (t := t) (t' := t') u0 u1 u2 u3 v0 v1 v2 v3
  omega
theorem firstOf_any (b off c : Nat) (x y t : Int) (n : Nat) (w : World) (hbl : b < w.heap.size) (q0 : w.cell? ⟨b, off, none⟩ = some (.int .i64 x)) (q1 : w.cell? ⟨b, off + 1, none⟩ = some (.int .i64 y)) (q2 : w.cell? ⟨b, off + 2, none⟩ = some (.int .i64 t)) (hn : 0 < n) :
    Calls Try.prog 61 #[.agg #[.slice (some ⟨b, off, none⟩) n c]] w fun e w' => e = .returned (.agg #[.int .i64 x, .int .i64 y, .int .i64 t]) ∧ Below w.heap.size w w' := by
  have i1 : (0 : Int) < (n : Int) := by omega
  go_enter Try.func61, Try.ntmps61
  go_wp2
  exact bodyPost_ret (v := .agg #[.int .i64 x, .int .i64 y, .int .i64 t]) (by simp [results, Try.results61, go_sem]) rfl ⟨rfl, (by repeat (first | exact Below.refl _ _ | assumption | refine Below.drew ?_ | refine below_drewN ?_ _ | refine Below.alloc ?_ (by first | omega | (simp <;> omega)) _ | refine Below.setCell ?_ (by first | omega | (simp <;> omega)) _))⟩
set_option maxRecDepth 100000 in
set_option maxHeartbeats 8000000 in
theorem spotAt_any (A : Option Addr) (n c : Nat) (xs : List T3) (A2 : Option Addr) (c2 : Nat) (part parts : Int) (w : World) (hr : RdL c3 3 w w.heap.size A n c xs) (hr2 : RdL c1 1 w w.heap.size A2 n c2 (arcsN xs n)) (hok : strokeB xs = true) (h0 : 0 ≤ part) (h1 : part ≤ parts) (h2 : 1 ≤ parts) (h3 : parts ≤ 1000) :
    Calls Try.prog 87 #[.agg #[.slice A n c], .slice A2 n c2, .int .i64 part, .int .i64 parts] w fun e w' => e = .returned (.agg #[.int .i64 (spotV xs part parts).1, .int .i64 (spotV xs part parts).2]) ∧ Below w.heap.size w w' := by
  have hl := Lib.hid hr.len
  have Hok := Lib.hid hok
  have hle := strokeB_len hok
  rw [hr.len] at hle
  have K0 : Blk ((w.alloc (.cells #[.slice A n c] 52)).alloc (.cells #[.int .i64 0, .int .i64 0] 96)) w.heap.size 52 #[.slice A n c] := (Blk.new _ _ _).alloc _
  have R0 : Blk ((w.alloc (.cells #[.slice A n c] 52)).alloc (.cells #[.int .i64 0, .int .i64 0] 96)) (w.heap.size + 1) 96 #[.int .i64 0, .int .i64 0] := by have h := Blk.new (w.alloc (.cells #[.slice A n c] 52)) 96 #[.int .i64 0, .int .i64 0]; simpa using h
  have hB : Below w.heap.size w ((w.alloc (.cells #[.slice A n c] 52)).alloc (.cells #[.int .i64 0, .int .i64 0] 96)) := (by repeat (first | exact Below.refl _ _ | assumption | refine Below.drew ?_ | refine below_drewN ?_ _ | refine Below.alloc ?_ (by first | omega | (simp <;> omega)) _ | refine Below.setCell ?_ (by first | omega | (simp <;> omega)) _))
  obtain ⟨b2, off2, gz, rfl, hbl2, hxz, az⟩ := hr2.at1 (show n - 1 < n by omega)
  have HZ : arcAt xs (n - 1) = gz := by have h := hxz.out; rw [arcsN_at xs (show n - 1 < n by omega)] at h; exact Option.some.inj h
  obtain ⟨Z0, Z1⟩ := arc_small hok (by rw [hr.len]; omega) HZ
  obtain ⟨Z2, Z3⟩ := mul_pos_le 5559600 1000 Z0 Z1 h0 (show part ≤ (1000 : Nat) by omega)
  obtain ⟨gl, hgl⟩ : ∃ gl, gz * part = gl := ⟨_, rfl⟩
  have HG : Hid (arcAt xs (xs.length - 1) * part = gl) := by rw [hl.out, HZ]; exact hgl
  rw [hgl] at Z2 Z3
  have i1 : (0 : Int) ≤ (n : Int) - 1 := by omega
  have i2 : (n : Int) - 1 < (n : Int) := by omega
  have i3 : IntKind.i64.wrap ((n : Int) - 1) = (n : Int) - 1 := IntWalk.i64_in _ (by omega)
  have i4 : ((n : Int) - 1).toNat = n - 1 := by omega
  have i5 : IntKind.i64.wrap (gz * part) = gl := by rw [hgl]; exact IntWalk.i64_in _ (by omega)
  have HR := Lib.hid hr
  have HR2 := Lib.hid hr2
  clear hr hr2 hok
  go_enter Try.func87, Try.ntmps87
  go_wp2_with fail
  clear i1 i2 i3 i4 i5 az hgl hxz HZ
  have hr := HR.out.on hB
  have hr2 := HR2.out.on hB
  clear HR HR2
  generalize (w.alloc (.cells #[.slice A n c] 52)).alloc (.cells #[.int .i64 0, .int .i64 0] 96) = v at *
  go_loopw [10, 11] (fun i _ wr => ∃ k : Nat, 1 ≤ k ∧ k ≤ n ∧ i = .int .i64 k ∧ Below v.heap.size v wr ∧ Hid (spotFrom xs part parts (n - k) k = spotV xs part parts)) (fun i _ _ => n - (intOf i).toNat)
  case atStart => exact ⟨1, by omega, by omega, rfl, Below.refl _ _, by show spotFrom xs part parts (n - 1) 1 = spotFrom xs part parts (xs.length - 1) 1; rw [hl.out]⟩
  case round =>
    obtain ⟨k, hk1, hk, rfl, hb, hs⟩ := hrel
    replace hr := hr.on hb
    replace hr2 := hr2.on hb
    replace K0 := K0.on hb
    replace R0 := R0.on hb
    replace hB := below_on hb hB
    have hV := hb
    clear hb
    have zk := K0.lt
    have zr := R0.lt
    by_cases hlt : k < n
    · obtain ⟨b', off', ak, he, hbl2, hxk, ck⟩ := hr2.at1 hlt
      cases he
      obtain ⟨b', off', ap, he, _, hxp, cp⟩ := hr2.at1 (show k - 1 < n by omega)
      cases he
      have HA : Hid (arcAt xs k = ak) := by have h := hxk.out; rw [arcsN_at xs hlt] at h; exact Option.some.inj h
      have HP : Hid (arcAt xs (k - 1) = ap) := by have h := hxp.out; rw [arcsN_at xs (show k - 1 < n by omega)] at h; exact Option.some.inj h
      obtain ⟨A0, A1⟩ := arc_small Hok.out (by rw [hl.out]; exact hlt) HA.out
      obtain ⟨P0, P1⟩ := arc_small Hok.out (by rw [hl.out]; omega) HP.out
      obtain ⟨U0, U1⟩ := arc_up Hok.out (by rw [hl.out]; exact hlt) hk1 HP.out HA.out
      obtain ⟨m0, m1⟩ := mul_pos_le 5559600 1000 A0 A1 (show 0 ≤ parts by omega) (show parts ≤ (1000 : Nat) by omega)
      have HGd : Hid (goodAt xs part parts k = (!decide (ak = ap) && decide (gl ≤ ak * parts))) := goodAt_of HG.out HP.out HA.out
      have i1 : (k : Int) < (n : Int) := by omega
      have i2 : (0 : Int) ≤ (k : Int) := by omega
      have i3 : (1 : Int) ≤ (k : Int) := by omega
      have i4 : (0 : Int) ≤ (k : Int) - 1 := by omega
      have i5 : (k : Int) - 1 < (n : Int) := by omega
      have i6 : IntKind.i64.wrap ((k : Int) - 1) = (k : Int) - 1 := IntWalk.i64_in _ (by omega)
      have i7 : ((k : Int) - 1).toNat = k - 1 := by omega
      have W1 : IntKind.i64.wrap (ak - ap) = ak - ap := IntWalk.i64_in _ (by omega)
      have W2 : IntKind.i64.wrap (ak * parts) = ak * parts := IntWalk.i64_in _ (by omega)
      have HR := Lib.hid hr
      clear hr hr2
      clear zk zr
      go_wp2
      go_quiet (fail)
      have hD : Below wr.heap.size wr (wr.drewN nq) := below_drewN (Below.refl _ _) _
      have hbl3 : b2 < (wr.drewN nq).heap.size := hbl2
      have ck3 := (hD.cell (p := ⟨b2, off2 + k, none⟩) hbl2).trans ck
      have cp3 := (hD.cell (p := ⟨b2, off2 + (k - 1), none⟩) hbl2).trans cp
      have hr := HR.out.on hD
      replace K0 := K0.on hD
      replace R0 := R0.on hD
      replace hB := below_on hD hB
      replace hV := below_on hD hV
      have zk := K0.lt
      have zr := R0.lt
      clear HR hD ck cp hbl2
      generalize wr.drewN nq = wq at *
      by_cases hz : ak - ap = 0
      · have F : Hid (spotFrom xs part parts (n - (k + 1)) (k + 1) = spotV xs part parts) := by
          show _ = _
          rw [spotFrom_no hlt (by rw [HGd.out]; simp; omega), hs.out]
        clear HGd hs hr
        go_wp2
        exact ⟨⟨k + 1, by omega, by omega, by go_num, (by repeat (first | exact Below.refl _ _ | assumption | refine Below.drew ?_ | refine below_drewN ?_ _ | refine Below.alloc ?_ (by first | omega | (simp <;> omega)) _ | refine Below.setCell ?_ (by first | omega | (simp <;> omega)) _)), F⟩, by simp [intOf]; omega⟩
      · by_cases hg : ak * parts < gl
        · have F : Hid (spotFrom xs part parts (n - (k + 1)) (k + 1) = spotV xs part parts) := by
            show _ = _
            rw [spotFrom_no hlt (by rw [HGd.out]; simp; intro _; omega), hs.out]
          clear HGd hs hr
          go_wp2
          exact ⟨⟨k + 1, by omega, by omega, by go_num, (by repeat (first | exact Below.refl _ _ | assumption | refine Below.drew ?_ | refine below_drewN ?_ _ | refine Below.alloc ?_ (by first | omega | (simp <;> omega)) _ | refine Below.setCell ?_ (by first | omega | (simp <;> omega)) _)), F⟩, by simp [intOf]; omega⟩
        · obtain ⟨b, off, x, y, t, rfl, hbl, hx, q0, q1, q2⟩ := hr.at3 hlt
          obtain ⟨b', off', x', y', t', he, _, hx', p0, p1, p2⟩ := hr.at3 (show k - 1 < n by omega)
          cases he
          have HSp : Hid (spotK xs part parts k = mixD (x', y', t') (x, y, t) (gl - ap * parts) ((ak - ap) * parts)) := spotK_of hx'.out hx.out HG.out HP.out HA.out
          clear hr
          have HV : Hid (spotV xs part parts = mixD (x', y', t') (x, y, t) (gl - ap * parts) ((ak - ap) * parts)) := by show _ = _; rw [← hs.out, spotFrom_yes hlt (by rw [HGd.out]; simp; omega), HSp.out]
          clear HSp HGd hs
          obtain ⟨⟨u0, u1⟩, ⟨u2, u3⟩, _, _⟩ := ptOk_iff.1 (strokeB_at Hok.out hx'.out)
          obtain ⟨⟨v0, v1⟩, ⟨v2, v3⟩, _, _⟩ := ptOk_iff.1 (strokeB_at Hok.out hx.out)
          obtain ⟨n0, n1⟩ := mul_pos_le 5559600 1000 P0 P1 (show 0 ≤ parts by omega) (show parts ≤ (1000 : Nat) by omega)
          obtain ⟨l0, l1⟩ := mul_pos_le 92660 1000 (show 0 ≤ ak - ap by omega) (show ak - ap ≤ (92660 : Nat) by omega) (show 0 ≤ parts by omega) (show parts ≤ (1000 : Nat) by omega)
          have l2 : 1 ≤ (ak - ap) * parts := Int.mul_pos (by omega) (by omega)
          obtain ⟨fr, hfr⟩ : ∃ fr, gl - ap * parts = fr := ⟨_, rfl⟩
          obtain ⟨al, hal⟩ : ∃ al, (ak - ap) * parts = al := ⟨_, rfl⟩
          have W3 : IntKind.i64.wrap (ap * parts) = ap * parts := IntWalk.i64_in _ (by omega)
          have W4 : IntKind.i64.wrap (gl - ap * parts) = fr := by rw [hfr]; exact IntWalk.i64_in _ (by omega)
          have W5 : IntKind.i64.wrap ((ak - ap) * parts) = al := by rw [hal]; exact IntWalk.i64_in _ (by omega)
          rw [hfr, hal] at HV
          rw [hal] at l0 l1 l2
          have f0 : -(5559600000 : Int) ≤ fr := by omega
          have f1 : fr ≤ 5559600000 := by omega
          obtain ⟨s0, s1⟩ := mul_in 4095 5559600000 (show -((4095 : Nat) : Int) ≤ x - x' by omega) (by omega) f0 f1
          obtain ⟨s2, s3⟩ := mul_in 4095 5559600000 (show -((4095 : Nat) : Int) ≤ y - y' by omega) (by omega) f0 f1
          obtain ⟨px, hpx⟩ : ∃ px, (x - x') * fr = px := ⟨_, rfl⟩
          obtain ⟨py, hpy⟩ : ∃ py, (y - y') * fr = py := ⟨_, rfl⟩
          rw [hpx] at s0 s1
          rw [hpy] at s2 s3
          obtain ⟨r0, r1⟩ := nearD_in (B := 22766562000000) (by omega) l2 (show _ ≤ px by omega) (show px ≤ _ by omega)
          obtain ⟨r2, r3⟩ := nearD_in (B := 22766562000000) (by omega) l2 (show _ ≤ py by omega) (show py ≤ _ by omega)
          have W6 : IntKind.i64.wrap (x - x') = x - x' := IntWalk.i64_in _ (by omega)
          have W7 : IntKind.i64.wrap (y - y') = y - y' := IntWalk.i64_in _ (by omega)
          have W8 : IntKind.i64.wrap ((x - x') * fr) = px := by rw [hpx]; exact IntWalk.i64_in _ (by omega)
          have W9 : IntKind.i64.wrap ((y - y') * fr) = py := by rw [hpy]; exact IntWalk.i64_in _ (by omega)
          have X1 : IntKind.i64.wrap (x' + nearD px al) = x' + nearD px al := IntWalk.i64_in _ (by omega)
          have X2 : IntKind.i64.wrap (y' + nearD py al) = y' + nearD py al := IntWalk.i64_in _ (by omega)
          have HM : Hid (spotV xs part parts = (x' + nearD px al, y' + nearD py al)) := by show _ = _; rw [HV.out]; unfold mixD; rw [hpx, hpy]
          have z1 := fun Z => nearestDiv_any px al Z (by omega) (by omega) (by omega) (by omega)
          have z2 := fun Z => nearestDiv_any py al Z (by omega) (by omega) (by omega) (by omega)
          have Y1 := Lib.hid z1
          have Y2 := Lib.hid z2
          clear HV z1 z2 hfr hal hpx hpy f0 f1 s0 s1 s2 s3 r0 r1 r2 r3 l0 l1 l2 n0 n1 u0 u1 u2 u3 v0 v1 v2 v3 m0 m1 A0 A1 P0 P1 U0 U1 hxk hxp hx hx' HA HP
          have e0 := K0.cell 0
          simp only [List.getElem?_toArray, List.getElem?_cons_zero] at e0
          go_wp2
          go_region_held3 (fun w' => w'.cell? ⟨w.heap.size, 0, none⟩ = some (.slice (some ⟨b, off, none⟩) n c) ∧ w'.cell? ⟨b, off + (k - 1) * 3, none⟩ = some (.int .i64 x') ∧ w'.cell? ⟨b, off + (k - 1) * 3 + 1, none⟩ = some (.int .i64 y') ∧ w'.cell? ⟨b, off + (k - 1) * 3 + 2, none⟩ = some (.int .i64 t') ∧ w'.cell? ⟨b, off + k * 3, none⟩ = some (.int .i64 x) ∧ w'.cell? ⟨b, off + k * 3 + 1, none⟩ = some (.int .i64 y) ∧ w'.cell? ⟨b, off + k * 3 + 2, none⟩ = some (.int .i64 t)) (first | exact ⟨e0, p0, p1, p2, q0, q1, q2⟩ | go_keep) (fail)
          · have Q0 := (Blk.new wq 54 #[.int .i64 x', .int .i64 y', .int .i64 t']).alloc (.cells #[.int .i64 x, .int .i64 y, .int .i64 t] 54)
            have Q1 := Blk.new (wq.alloc (.cells #[.int .i64 x', .int .i64 y', .int .i64 t'] 54)) 54 #[.int .i64 x, .int .i64 y, .int .i64 t]
            rw [World.size_alloc] at Q1
            have hbW : Below wq.heap.size wq ((wq.alloc (.cells #[.int .i64 x', .int .i64 y', .int .i64 t'] 54)).alloc (.cells #[.int .i64 x, .int .i64 y, .int .i64 t] 54)).drew := (by repeat (first | exact Below.refl _ _ | assumption | refine Below.drew ?_ | refine below_drewN ?_ _ | refine Below.alloc ?_ (by first | omega | (simp <;> omega)) _ | refine Below.setCell ?_ (by first | omega | (simp <;> omega)) _))
            replace Q0 := Q0.drew
            replace Q1 := Q1.drew
            replace hB := below_on hbW hB
            replace R0 := R0.on hbW
            have hbl4 : b2 < ((wq.alloc (.cells #[.int .i64 x', .int .i64 y', .int .i64 t'] 54)).alloc (.cells #[.int .i64 x, .int .i64 y, .int .i64 t] 54)).drew.heap.size := Nat.lt_of_lt_of_le hbl3 hbW.size
            have ck2 := (hbW.cell (p := ⟨b2, off2 + k, none⟩) hbl3).trans ck3
            have cp2 := (hbW.cell (p := ⟨b2, off2 + (k - 1), none⟩) hbl3).trans cp3
            clear hbW q0 q1 q2 p0 p1 p2 ck3 cp3 hbl hbl3 K0 zk
            generalize ((wq.alloc (.cells #[.int .i64 x', .int .i64 y', .int .i64 t'] 54)).alloc (.cells #[.int .i64 x, .int .i64 y, .int .i64 t] 54)).drew = wa at *
            generalize wq.heap.size = e0 at *
            generalize hh : e0 + 1 = e1 at *
            have n1 : ¬ w.heap.size + 1 = e0 := by omega
            have n2 : ¬ w.heap.size + 1 = e1 := by omega
            have n3 : ¬ e0 = w.heap.size + 1 := by omega
            have n4 : ¬ e1 = w.heap.size + 1 := by omega
            clear hh
            have j0 := R0.cell 0
            have j1 := R0.cell 1
            simp only [List.getElem?_toArray, List.getElem?_cons_succ, List.getElem?_cons_zero] at j0 j1
            have f0 := R0.frozen 0
            have f1 := R0.frozen 1
            have p0 := Q0.cell 0
            have p1 := Q0.cell 1
            have p2 := Q0.cell 2
            simp only [List.getElem?_toArray, List.getElem?_cons_succ, List.getElem?_cons_zero] at p0 p1 p2
            have q0 := Q1.cell 0
            have q1 := Q1.cell 1
            have q2 := Q1.cell 2
            simp only [List.getElem?_toArray, List.getElem?_cons_succ, List.getElem?_cons_zero] at q0 q1 q2
            replace zr := R0.lt
            clear Q0 Q1
            go_split_ands
            go_wp2
            go_region_held3 (fun w' => w'.cell? ⟨e0, 0, none⟩ = some (.int .i64 x') ∧ w'.cell? ⟨e0, 1, none⟩ = some (.int .i64 y') ∧ w'.cell? ⟨e1, 0, none⟩ = some (.int .i64 x) ∧ w'.cell? ⟨e1, 1, none⟩ = some (.int .i64 y)) (first | exact ⟨p0, p1, q0, q1⟩ | go_keep)
              (first | (go_at_call 37; (first | with_reducible refine (Y1.out _).mono ?_ | with_reducible refine (Y2.out _).mono ?_); rintro e w7 ⟨rfl, rfl⟩))
            go_wp2
            rw [HM.out]
            exact bodyPost_ret (v := .agg #[.int .i64 (x' + nearD px al), .int .i64 (y' + nearD py al)]) (by simp [results, Try.results87, go_sem, j0, j1]) rfl ⟨rfl, (by repeat (first | exact Below.refl _ _ | assumption | refine Below.drew ?_ | refine below_drewN ?_ _ | refine Below.alloc ?_ (by first | omega | (simp <;> omega)) _ | refine Below.setCell ?_ (by first | omega | (simp <;> omega)) _))⟩
          · have Q0 := (Blk.new wq 54 #[.int .i64 x, .int .i64 y, .int .i64 t]).alloc (.cells #[.int .i64 x', .int .i64 y', .int .i64 t'] 54)
            have Q1 := Blk.new (wq.alloc (.cells #[.int .i64 x, .int .i64 y, .int .i64 t] 54)) 54 #[.int .i64 x', .int .i64 y', .int .i64 t']
            rw [World.size_alloc] at Q1
            have hbW : Below wq.heap.size wq ((wq.alloc (.cells #[.int .i64 x, .int .i64 y, .int .i64 t] 54)).alloc (.cells #[.int .i64 x', .int .i64 y', .int .i64 t'] 54)).drew := (by repeat (first | exact Below.refl _ _ | assumption | refine Below.drew ?_ | refine below_drewN ?_ _ | refine Below.alloc ?_ (by first | omega | (simp <;> omega)) _ | refine Below.setCell ?_ (by first | omega | (simp <;> omega)) _))
            replace Q0 := Q0.drew
            replace Q1 := Q1.drew
            replace hB := below_on hbW hB
            replace R0 := R0.on hbW
            have hbl4 : b2 < ((wq.alloc (.cells #[.int .i64 x, .int .i64 y, .int .i64 t] 54)).alloc (.cells #[.int .i64 x', .int .i64 y', .int .i64 t'] 54)).drew.heap.size := Nat.lt_of_lt_of_le hbl3 hbW.size
            have ck2 := (hbW.cell (p := ⟨b2, off2 + k, none⟩) hbl3).trans ck3
            have cp2 := (hbW.cell (p := ⟨b2, off2 + (k - 1), none⟩) hbl3).trans cp3
            clear hbW q0 q1 q2 p0 p1 p2 ck3 cp3 hbl hbl3 K0 zk
            generalize ((wq.alloc (.cells #[.int .i64 x, .int .i64 y, .int .i64 t] 54)).alloc (.cells #[.int .i64 x', .int .i64 y', .int .i64 t'] 54)).drew = wa at *
            generalize wq.heap.size = e0 at *
            generalize hh : e0 + 1 = e1 at *
            have n1 : ¬ w.heap.size + 1 = e0 := by omega
            have n2 : ¬ w.heap.size + 1 = e1 := by omega
            have n3 : ¬ e0 = w.heap.size + 1 := by omega
            have n4 : ¬ e1 = w.heap.size + 1 := by omega
            clear hh
            have j0 := R0.cell 0
            have j1 := R0.cell 1
            simp only [List.getElem?_toArray, List.getElem?_cons_succ, List.getElem?_cons_zero] at j0 j1
            have f0 := R0.frozen 0
            have f1 := R0.frozen 1
            have q0 := Q0.cell 0
            have q1 := Q0.cell 1
            have q2 := Q0.cell 2
            simp only [List.getElem?_toArray, List.getElem?_cons_succ, List.getElem?_cons_zero] at q0 q1 q2
            have p0 := Q1.cell 0
            have p1 := Q1.cell 1
            have p2 := Q1.cell 2
            simp only [List.getElem?_toArray, List.getElem?_cons_succ, List.getElem?_cons_zero] at p0 p1 p2
            replace zr := R0.lt
            clear Q0 Q1
            go_split_ands
            go_wp2
            go_region_held3 (fun w' => w'.cell? ⟨e1, 0, none⟩ = some (.int .i64 x') ∧ w'.cell? ⟨e1, 1, none⟩ = some (.int .i64 y') ∧ w'.cell? ⟨e0, 0, none⟩ = some (.int .i64 x) ∧ w'.cell? ⟨e0, 1, none⟩ = some (.int .i64 y)) (first | exact ⟨p0, p1, q0, q1⟩ | go_keep)
              (first | (go_at_call 37; (first | with_reducible refine (Y1.out _).mono ?_ | with_reducible refine (Y2.out _).mono ?_); rintro e w7 ⟨rfl, rfl⟩))
            go_wp2
            rw [HM.out]
            exact bodyPost_ret (v := .agg #[.int .i64 (x' + nearD px al), .int .i64 (y' + nearD py al)]) (by simp [results, Try.results87, go_sem, j0, j1]) rfl ⟨rfl, (by repeat (first | exact Below.refl _ _ | assumption | refine Below.drew ?_ | refine below_drewN ?_ _ | refine Below.alloc ?_ (by first | omega | (simp <;> omega)) _ | refine Below.setCell ?_ (by first | omega | (simp <;> omega)) _))⟩
    · have hkn : k = n := by omega
      subst hkn
      obtain ⟨b, off, x, y, t, rfl, hbl, hx, q0, q1, q2⟩ := hr.at3 (show 0 < k by omega)
      have HF := Lib.hid (spotFrom_end (part := part) (parts := parts) (n := k) hx.out)
      clear hr hr2
      have e0 := K0.cell 0
      simp only [List.getElem?_toArray, List.getElem?_cons_zero] at e0
      go_wp2_with fail
      with_reducible refine (firstOf_any _ _ _ x y t _ _ (by assumption) (by simpa using q0) (by simpa using q1) (by simpa using q2) (by omega)).mono ?_
      rintro e w2 ⟨rfl, hbw2⟩
      replace R0 := R0.on hbw2
      replace hB := below_on hbw2 hB
      go_wp2_with fail
      with_reducible refine (spotOf_any _ _ _ _).mono ?_
      rintro e w3 ⟨rfl, hbw3⟩
      replace R0 := R0.on hbw3
      replace hB := below_on hbw3 hB
      have zr3 := R0.lt
      have j0 := R0.cell 0
      have j1 := R0.cell 1
      simp only [List.getElem?_toArray, List.getElem?_cons_succ, List.getElem?_cons_zero] at j0 j1
      have f0 := R0.frozen 0
      have f1 := R0.frozen 1
      have HM : Hid (spotV xs part parts = (x, y)) := by show _ = _; rw [← hs.out, HF.out]
      clear hs HF
      go_wp2
      rw [HM.out]
      exact bodyPost_ret (v := .agg #[.int .i64 x, .int .i64 y]) (by simp [results, Try.results87, go_sem, j0, j1]) rfl ⟨rfl, (by repeat (first | exact Below.refl _ _ | assumption | refine Below.drew ?_ | refine below_drewN ?_ _ | refine Below.alloc ?_ (by first | omega | (simp <;> omega)) _ | refine Below.setCell ?_ (by first | omega | (simp <;> omega)) _))⟩
set_option maxRecDepth 100000 in
set_option maxHeartbeats 8000000 in
theorem l06At_any (A : Option Addr) (n c : Nat) (xs : List T3) (A2 : Option Addr) (c2 : Nat) (part parts : Int) (w : World) (g0 o0 : Nat) (K0 : Cel w g0 o0 (.slice A n c)) (hr : RdL c3 3 w w.heap.size A n c xs) (hr2 : RdL c1 1 w w.heap.size A2 n c2 (arcsN xs n)) (hok : strokeB xs = true) (h0 : 0 ≤ part) (h1 : part ≤ parts) (h2 : 1 ≤ parts) (h3 : parts ≤ 1000) :
    Calls Try.prog 93 #[.pointer (some ⟨g0, o0, none⟩), .slice A2 n c2, .int .i64 part, .int .i64 parts] w fun e w' => e = .returned (.agg #[.int .i64 (spotV xs part parts).1, .int .i64 (spotV xs part parts).2]) ∧ Below w.heap.size w w' := by
  have hl := Lib.hid hr.len
  have Hok := Lib.hid hok
  have hle := strokeB_len hok
  rw [hr.len] at hle
  have zk0 := K0.lt
  have R0 : Blk (w.alloc (.cells #[.int .i64 0, .int .i64 0] 96)) w.heap.size 96 #[.int .i64 0, .int .i64 0] := Blk.new _ _ _
  have hB : Below w.heap.size w (w.alloc (.cells #[.int .i64 0, .int .i64 0] 96)) := (by repeat (first | exact Below.refl _ _ | assumption | refine Below.drew ?_ | refine below_drewN ?_ _ | refine Below.alloc ?_ (by first | omega | (simp <;> omega)) _ | refine Below.setCell ?_ (by first | omega | (simp <;> omega)) _))
  obtain ⟨b2, off2, gz, rfl, hbl2, hxz, az⟩ := hr2.at1 (show n - 1 < n by omega)
  have HZ : arcAt xs (n - 1) = gz := by have h := hxz.out; rw [arcsN_at xs (show n - 1 < n by omega)] at h; exact Option.some.inj h
  obtain ⟨Z0, Z1⟩ := arc_small hok (by rw [hr.len]; omega) HZ
  obtain ⟨Z2, Z3⟩ := mul_pos_le 5559600 1000 Z0 Z1 h0 (show part ≤ (1000 : Nat) by omega)
  obtain ⟨gl, hgl⟩ : ∃ gl, gz * part = gl := ⟨_, rfl⟩
  have HG : Hid (arcAt xs (xs.length - 1) * part = gl) := by rw [hl.out, HZ]; exact hgl
  rw [hgl] at Z2 Z3
  have i1 : (0 : Int) ≤ (n : Int) - 1 := by omega
  have i2 : (n : Int) - 1 < (n : Int) := by omega
  have i3 : IntKind.i64.wrap ((n : Int) - 1) = (n : Int) - 1 := IntWalk.i64_in _ (by omega)
  have i4 : ((n : Int) - 1).toNat = n - 1 := by omega
  have i5 : IntKind.i64.wrap (gz * part) = gl := by rw [hgl]; exact IntWalk.i64_in _ (by omega)
  have HR := Lib.hid hr
  have HR2 := Lib.hid hr2
  clear hr hr2 hok
  go_enter Try.func93, Try.ntmps93
  go_wp2_with fail
  clear i1 i2 i3 i4 i5 az hgl hxz HZ
  have hr := HR.out.on hB
  have hr2 := HR2.out.on hB
  clear HR HR2
  replace K0 := K0.on hB
  generalize w.alloc (.cells #[.int .i64 0, .int .i64 0] 96) = v at *
  go_loopw [10] (fun i wr => ∃ k : Nat, 1 ≤ k ∧ k ≤ n ∧ i = .int .i64 k ∧ Below v.heap.size v wr ∧ Hid (spotFrom xs part parts (n - k) k = spotV xs part parts)) (fun i _ => n - (intOf i).toNat)
  case atStart => exact ⟨1, by omega, by omega, rfl, Below.refl _ _, by show spotFrom xs part parts (n - 1) 1 = spotFrom xs part parts (xs.length - 1) 1; rw [hl.out]⟩
  case round =>
    obtain ⟨k, hk1, hk, rfl, hb, hs⟩ := hrel
    replace hr := hr.on hb
    replace hr2 := hr2.on hb
    replace K0 := K0.on hb
    replace R0 := R0.on hb
    replace hB := below_on hb hB
    have hV := hb
    clear hb
    have zk := K0.lt
    have zr := R0.lt
    by_cases hlt : k < n
    · obtain ⟨b', off', ak, he, hbl2, hxk, ck⟩ := hr2.at1 hlt
      cases he
      obtain ⟨b', off', ap, he, _, hxp, cp⟩ := hr2.at1 (show k - 1 < n by omega)
      cases he
      have HA : Hid (arcAt xs k = ak) := by have h := hxk.out; rw [arcsN_at xs hlt] at h; exact Option.some.inj h
      have HP : Hid (arcAt xs (k - 1) = ap) := by have h := hxp.out; rw [arcsN_at xs (show k - 1 < n by omega)] at h; exact Option.some.inj h
      obtain ⟨A0, A1⟩ := arc_small Hok.out (by rw [hl.out]; exact hlt) HA.out
      obtain ⟨P0, P1⟩ := arc_small Hok.out (by rw [hl.out]; omega) HP.out
      obtain ⟨U0, U1⟩ := arc_up Hok.out (by rw [hl.out]; exact hlt) hk1 HP.out HA.out
      obtain ⟨m0, m1⟩ := mul_pos_le 5559600 1000 A0 A1 (show 0 ≤ parts by omega) (show parts ≤ (1000 : Nat) by omega)
      have HGd : Hid (goodAt xs part parts k = (!decide (ak = ap) && decide (gl ≤ ak * parts))) := goodAt_of HG.out HP.out HA.out
      have i1 : (k : Int) < (n : Int) := by omega
      have i2 : (0 : Int) ≤ (k : Int) := by omega
      have i3 : (1 : Int) ≤ (k : Int) := by omega
      have i4 : (0 : Int) ≤ (k : Int) - 1 := by omega
      have i5 : (k : Int) - 1 < (n : Int) := by omega
      have i6 : IntKind.i64.wrap ((k : Int) - 1) = (k : Int) - 1 := IntWalk.i64_in _ (by omega)
      have i7 : ((k : Int) - 1).toNat = k - 1 := by omega
      have W1 : IntKind.i64.wrap (ak - ap) = ak - ap := IntWalk.i64_in _ (by omega)
      have W2 : IntKind.i64.wrap (ak * parts) = ak * parts := IntWalk.i64_in _ (by omega)
      have HR := Lib.hid hr
      clear hr hr2
      by_cases hz : ak = ap
      · have F : Hid (spotFrom xs part parts (n - (k + 1)) (k + 1) = spotV xs part parts) := by
          show _ = _
          rw [spotFrom_no hlt (by rw [HGd.out]; simp; omega), hs.out]
        clear HGd hs
        go_wp2
        go_quiet (fail)
        go_wp2
        exact ⟨⟨k + 1, by omega, by omega, by go_num, (by repeat (first | exact Below.refl _ _ | assumption | refine Below.drew ?_ | refine below_drewN ?_ _ | refine Below.alloc ?_ (by first | omega | (simp <;> omega)) _ | refine Below.setCell ?_ (by first | omega | (simp <;> omega)) _)), F⟩, by simp [intOf]; omega⟩
      · by_cases hg : ak * parts < gl
        · have F : Hid (spotFrom xs part parts (n - (k + 1)) (k + 1) = spotV xs part parts) := by
            show _ = _
            rw [spotFrom_no hlt (by rw [HGd.out]; simp; intro _; omega), hs.out]
          clear HGd hs
          go_wp2
          go_quiet (fail)
          go_wp2
          exact ⟨⟨k + 1, by omega, by omega, by go_num, (by repeat (first | exact Below.refl _ _ | assumption | refine Below.drew ?_ | refine below_drewN ?_ _ | refine Below.alloc ?_ (by first | omega | (simp <;> omega)) _ | refine Below.setCell ?_ (by first | omega | (simp <;> omega)) _)), F⟩, by simp [intOf]; omega⟩
        · have hzb : (ak == ap) = false := by simp [hz]
          have hkb : ((k : Int) == (n : Int)) = false := by simp; omega
          go_wp2
          go_quiet (fail)
          have hD : Below wr.heap.size wr (wr.drewN nq) := below_drewN (Below.refl _ _) _
          have hbl3 : b2 < (wr.drewN nq).heap.size := hbl2
          have ck3 := (hD.cell (p := ⟨b2, off2 + k, none⟩) hbl2).trans ck
          have cp3 := (hD.cell (p := ⟨b2, off2 + (k - 1), none⟩) hbl2).trans cp
          have hr := HR.out.on hD
          replace K0 := K0.on hD
          replace R0 := R0.on hD
          replace hB := below_on hD hB
          replace hV := below_on hD hV
          have zk := K0.lt
          have zr := R0.lt
          clear HR hD ck cp hbl2
          generalize wr.drewN nq = wq at *
          obtain ⟨b, off, x, y, t, rfl, hbl, hx, q0, q1, q2⟩ := hr.at3 hlt
          obtain ⟨b', off', x', y', t', he, _, hx', p0, p1, p2⟩ := hr.at3 (show k - 1 < n by omega)
          cases he
          have HSp : Hid (spotK xs part parts k = mixD (x', y', t') (x, y, t) (gl - ap * parts) ((ak - ap) * parts)) := spotK_of hx'.out hx.out HG.out HP.out HA.out
          clear hr
          have HV : Hid (spotV xs part parts = mixD (x', y', t') (x, y, t) (gl - ap * parts) ((ak - ap) * parts)) := by show _ = _; rw [← hs.out, spotFrom_yes hlt (by rw [HGd.out]; simp; omega), HSp.out]
          clear HSp HGd hs
          obtain ⟨⟨u0, u1⟩, ⟨u2, u3⟩, _, _⟩ := ptOk_iff.1 (strokeB_at Hok.out hx'.out)
          obtain ⟨⟨v0, v1⟩, ⟨v2, v3⟩, _, _⟩ := ptOk_iff.1 (strokeB_at Hok.out hx.out)
          obtain ⟨n0, n1⟩ := mul_pos_le 5559600 1000 P0 P1 (show 0 ≤ parts by omega) (show parts ≤ (1000 : Nat) by omega)
          obtain ⟨l0, l1⟩ := mul_pos_le 92660 1000 (show 0 ≤ ak - ap by omega) (show ak - ap ≤ (92660 : Nat) by omega) (show 0 ≤ parts by omega) (show parts ≤ (1000 : Nat) by omega)
          have l2 : 1 ≤ (ak - ap) * parts := Int.mul_pos (by omega) (by omega)
          obtain ⟨fr, hfr⟩ : ∃ fr, gl - ap * parts = fr := ⟨_, rfl⟩
          obtain ⟨al, hal⟩ : ∃ al, (ak - ap) * parts = al := ⟨_, rfl⟩
          have W3 : IntKind.i64.wrap (ap * parts) = ap * parts := IntWalk.i64_in _ (by omega)
          have W4 : IntKind.i64.wrap (gl - ap * parts) = fr := by rw [hfr]; exact IntWalk.i64_in _ (by omega)
          have W5 : IntKind.i64.wrap ((ak - ap) * parts) = al := by rw [hal]; exact IntWalk.i64_in _ (by omega)
          rw [hfr, hal] at HV
          rw [hal] at l0 l1 l2
          have f0 : -(5559600000 : Int) ≤ fr := by omega
          have f1 : fr ≤ 5559600000 := by omega
          obtain ⟨s0, s1⟩ := mul_in 4095 5559600000 (show -((4095 : Nat) : Int) ≤ x - x' by omega) (by omega) f0 f1
          obtain ⟨s2, s3⟩ := mul_in 4095 5559600000 (show -((4095 : Nat) : Int) ≤ y - y' by omega) (by omega) f0 f1
          obtain ⟨px, hpx⟩ : ∃ px, (x - x') * fr = px := ⟨_, rfl⟩
          obtain ⟨py, hpy⟩ : ∃ py, (y - y') * fr = py := ⟨_, rfl⟩
          rw [hpx] at s0 s1
          rw [hpy] at s2 s3
          obtain ⟨r0, r1⟩ := nearD_in (B := 22766562000000) (by omega) l2 (show _ ≤ px by omega) (show px ≤ _ by omega)
          obtain ⟨r2, r3⟩ := nearD_in (B := 22766562000000) (by omega) l2 (show _ ≤ py by omega) (show py ≤ _ by omega)
          have W6 : IntKind.i64.wrap (x - x') = x - x' := IntWalk.i64_in _ (by omega)
          have W7 : IntKind.i64.wrap (y - y') = y - y' := IntWalk.i64_in _ (by omega)
          have W8 : IntKind.i64.wrap ((x - x') * fr) = px := by rw [hpx]; exact IntWalk.i64_in _ (by omega)
          have W9 : IntKind.i64.wrap ((y - y') * fr) = py := by rw [hpy]; exact IntWalk.i64_in _ (by omega)
          have X1 : IntKind.i64.wrap (x' + nearD px al) = x' + nearD px al := IntWalk.i64_in _ (by omega)
          have X2 : IntKind.i64.wrap (y' + nearD py al) = y' + nearD py al := IntWalk.i64_in _ (by omega)
          have HM : Hid (spotV xs part parts = (x' + nearD px al, y' + nearD py al)) := by show _ = _; rw [HV.out]; unfold mixD; rw [hpx, hpy]
          have z1 := fun Z => l05Near_any px al Z (by omega) (by omega) (by omega) (by omega)
          have z2 := fun Z => l05Near_any py al Z (by omega) (by omega) (by omega) (by omega)
          have Y1 := Lib.hid z1
          have Y2 := Lib.hid z2
          clear HV z1 z2 hfr hal hpx hpy f0 f1 s0 s1 s2 s3 r0 r1 r2 r3 l0 l1 l2 n0 n1 u0 u1 u2 u3 v0 v1 v2 v3 m0 m1 A0 A1 P0 P1 U0 U1 hxk hxp hx hx' HA HP
          have e0 := K0.cell
          go_wp2
          have Q0 := (Blk.new wq 54 #[.int .i64 x', .int .i64 y', .int .i64 t']).alloc (.cells #[.int .i64 x, .int .i64 y, .int .i64 t] 54)
          have Q1 := Blk.new (wq.alloc (.cells #[.int .i64 x', .int .i64 y', .int .i64 t'] 54)) 54 #[.int .i64 x, .int .i64 y, .int .i64 t]
          rw [World.size_alloc] at Q1
          have hbW : Below wq.heap.size wq ((wq.alloc (.cells #[.int .i64 x', .int .i64 y', .int .i64 t'] 54)).alloc (.cells #[.int .i64 x, .int .i64 y, .int .i64 t] 54)) := (by repeat (first | exact Below.refl _ _ | assumption | refine Below.drew ?_ | refine below_drewN ?_ _ | refine Below.alloc ?_ (by first | omega | (simp <;> omega)) _ | refine Below.setCell ?_ (by first | omega | (simp <;> omega)) _))
          replace hB := below_on hbW hB
          replace R0 := R0.on hbW
          have hbl4 : b2 < ((wq.alloc (.cells #[.int .i64 x', .int .i64 y', .int .i64 t'] 54)).alloc (.cells #[.int .i64 x, .int .i64 y, .int .i64 t] 54)).heap.size := Nat.lt_of_lt_of_le hbl3 hbW.size
          have ck2 := (hbW.cell (p := ⟨b2, off2 + k, none⟩) hbl3).trans ck3
          have cp2 := (hbW.cell (p := ⟨b2, off2 + (k - 1), none⟩) hbl3).trans cp3
          clear hbW q0 q1 q2 p0 p1 p2 ck3 cp3 hbl hbl3 K0 zk
          generalize (wq.alloc (.cells #[.int .i64 x', .int .i64 y', .int .i64 t'] 54)).alloc (.cells #[.int .i64 x, .int .i64 y, .int .i64 t] 54) = wa at *
          generalize wq.heap.size = e0 at *
          generalize hh : e0 + 1 = e1 at *
          have n1 : ¬ w.heap.size = e0 := by omega
          have n2 : ¬ w.heap.size = e1 := by omega
          have n3 : ¬ e0 = w.heap.size := by omega
          have n4 : ¬ e1 = w.heap.size := by omega
          clear hh
          have j0 := R0.cell 0
          have j1 := R0.cell 1
          simp only [List.getElem?_toArray, List.getElem?_cons_succ, List.getElem?_cons_zero] at j0 j1
          have f0 := R0.frozen 0
          have f1 := R0.frozen 1
          have p0 := Q0.cell 0
          have p1 := Q0.cell 1
          have p2 := Q0.cell 2
          simp only [List.getElem?_toArray, List.getElem?_cons_succ, List.getElem?_cons_zero] at p0 p1 p2
          have q0 := Q1.cell 0
          have q1 := Q1.cell 1
          have q2 := Q1.cell 2
          simp only [List.getElem?_toArray, List.getElem?_cons_succ, List.getElem?_cons_zero] at q0 q1 q2
          replace zr := R0.lt
          clear Q0 Q1
          go_wp2
          go_quiet (fail)
          go_wp2
          go_region_held3 (fun w' => w'.cell? ⟨e0, 0, none⟩ = some (.int .i64 x') ∧ w'.cell? ⟨e0, 1, none⟩ = some (.int .i64 y') ∧ w'.cell? ⟨e1, 0, none⟩ = some (.int .i64 x) ∧ w'.cell? ⟨e1, 1, none⟩ = some (.int .i64 y)) (first | exact ⟨p0, p1, q0, q1⟩ | go_keep)
            (first | (go_at_call 30; (first | with_reducible refine (Y1.out _).mono ?_ | with_reducible refine (Y2.out _).mono ?_); rintro e w7 ⟨rfl, rfl⟩))
          go_wp2
          rw [HM.out]
          exact bodyPost_ret (v := .agg #[.int .i64 (x' + nearD px al), .int .i64 (y' + nearD py al)]) (by simp [results, Try.results93, go_sem, j0, j1]) rfl ⟨rfl, (by repeat (first | exact Below.refl _ _ | assumption | refine Below.drew ?_ | refine below_drewN ?_ _ | refine Below.alloc ?_ (by first | omega | (simp <;> omega)) _ | refine Below.setCell ?_ (by first | omega | (simp <;> omega)) _))⟩
    · have hkn : k = n := by omega
      subst hkn
      obtain ⟨b, off, x, y, t, rfl, hbl, hx, q0, q1, q2⟩ := hr.at3 (show 0 < k by omega)
      have HF := Lib.hid (spotFrom_end (part := part) (parts := parts) (n := k) hx.out)
      clear hr hr2
      have e0 := K0.cell
      have i1 : (0 : Int) < (k : Int) := by omega
      simp only [Nat.zero_mul, Nat.add_zero] at q0 q1 q2
      go_wp2
      go_quiet (fail)
      replace R0 := R0.drewN nq
      replace hB := below_drewN hB nq
      go_wp2_with fail
      with_reducible refine (l06Spot_any _ _ _ _).mono ?_
      rintro e w3 ⟨rfl, hbw3⟩
      replace R0 := R0.on hbw3
      replace hB := below_on hbw3 hB
      have zr3 := R0.lt
      have j0 := R0.cell 0
      have j1 := R0.cell 1
      simp only [List.getElem?_toArray, List.getElem?_cons_succ, List.getElem?_cons_zero] at j0 j1
      have f0 := R0.frozen 0
      have f1 := R0.frozen 1
      have HM : Hid (spotV xs part parts = (x, y)) := by show _ = _; rw [← hs.out, HF.out]
      clear hs HF
      go_wp2
      rw [HM.out]
      exact bodyPost_ret (v := .agg #[.int .i64 x, .int .i64 y]) (by simp [results, Try.results93, go_sem, j0, j1]) rfl ⟨rfl, (by repeat (first | exact Below.refl _ _ | assumption | refine Below.drew ?_ | refine below_drewN ?_ _ | refine Below.alloc ?_ (by first | omega | (simp <;> omega)) _ | refine Below.setCell ?_ (by first | omega | (simp <;> omega)) _))⟩
end Go.Proofs.Ytbfilhpgekgmbaa
