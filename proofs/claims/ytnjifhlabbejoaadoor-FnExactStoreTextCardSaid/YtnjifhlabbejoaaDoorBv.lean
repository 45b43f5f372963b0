/- StoreText: the reference's. -/
import Derived.Test.YtnjifhlabbejoaaDoorBt
namespace Go.Proofs.YtnjifhlabbejoaaDoor
open Go.ChangeShapes Go.WideShapes Go.ChangeAt Go.RowKit
set_option linter.unusedVariables false
set_option linter.unusedSimpArgs false
def jnP (xs : List Int) (sep : ByteArray) (k : Nat) : ByteArray := jnB ((xs.take k).map decS) sep
theorem jnP_one {xs : List Int} {sep : ByteArray} {x : Int} (h : xs[0]? = some x) : jnP xs sep 1 = decS x := by
  unfold jnP
  rw [show (1 : Nat) = 0 + 1 from rfl, take_succ_of h, List.take_zero, List.nil_append, List.map_cons, List.map_nil, jnB_one]
theorem jnP_step {xs : List Int} {sep : ByteArray} {x : Int} {k : Nat} (hk : 0 < k) (h : xs[k]? = some x) : jnP xs sep (k + 1) = jnP xs sep k ++ sep ++ decS x := by
  unfold jnP
  have hkl : k < xs.length := (List.getElem?_eq_some_iff.1 h).1
  rw [take_succ_of h, List.map_append, List.map_cons, List.map_nil, jnB_snoc]
  intro e
  have h2 := congrArg List.length e
  rw [List.length_map, List.length_take] at h2
  simp only [List.length_nil] at h2; omega
set_option maxHeartbeats 4000000 in
theorem l03Join_any (A : Option Addr) (n c : Nat) (xs : List Int) (sep : ByteArray) (w : World) (hr : RdL c1 1 w w.heap.size A n c xs) (hn : n ≤ 1000) (hx : ∀ x ∈ xs, I64 x) (hsep : sep.size ≤ 10) :
    Calls Tryd.prog 69 #[.slice A n c, .string sep] w fun e w' => e = .returned (.string (jnB (xs.map decS) sep)) ∧ Below w.heap.size w w' := by
  have HL := Lib.hid hr.len
  have HR := Lib.hid hr
  clear hr
  go_enter Tryd.func69, Tryd.ntmps69
  go_wp2_with fail
  go_loopw [5, 6] (fun q i wr => ∃ (k : Nat) (S : ByteArray), k ≤ n ∧ i = .int .i64 k ∧ q = .string S ∧ Hid (jnP xs sep k = S) ∧ S.size ≤ k * 31 ∧ Below w.heap.size w wr) (fun _ i _ => n - (intOf i).toNat)
  case atStart => exact ⟨0, ⟨#[]⟩, by omega, rfl, rfl, rfl, by decide, Below.refl _ _⟩
  case round =>
    obtain ⟨k, S, hk, rfl, rfl, hS, hsz, hb⟩ := hrel
    have hbs := hb.size
    by_cases hlt : k < n
    · obtain ⟨b, off, x, rfl, hbl, hxx, q0⟩ := (HR.out.on hb).at1 hlt
      have hxi := hx _ (List.mem_of_getElem? hxx.out)
      obtain ⟨DX, hDX⟩ : ∃ S, decS x = S := ⟨_, rfl⟩
      have z1 : DX.size ≤ 21 := hDX ▸ decS_size hxi
      have HDX := Lib.hid hDX
      have i1 : (k : Int) < (n : Int) := by omega
      have i2 : (0 : Int) ≤ (k : Int) := by omega
      clear hDX
      rcases Nat.eq_zero_or_pos k with hk0 | hk0
      · have hS0 : S = ⟨#[]⟩ := by rw [← hS.out, hk0]; rfl
        have HN : Hid (jnP xs sep (k + 1) = ⟨#[]⟩ ++ DX) := by show _ = _; rw [empty_app, hk0, jnP_one (by rw [← hk0]; exact hxx.out), HDX.out]
        have k0 : ¬ (0 : Int) < (k : Int) := by omega
        have k0d : decide ((0 : Int) < (k : Int)) = false := decide_eq_false k0
        have y1 : ¬ 9223372036854775807 < DX.size := by omega
        have HSZ : ((⟨#[]⟩ : ByteArray) ++ DX).size ≤ (k + 1) * 31 := by rw [empty_app]; omega
        have HB := Lib.hid hb
        subst hS0
        clear hxx hS hsz hk0 hb
        go_wp2_with fail
        with_reducible refine (l01Dec_any x _ hxi).mono ?_
        rintro e w3 ⟨rfl, hb3⟩
        rw [HDX.out]
        have HB3 := Lib.hid (below_app HB.out hb3 hbs)
        clear hb3
        go_wp2
        exact ⟨⟨k + 1, _, by omega, by go_num, rfl, HN.out, HSZ, HB3.out⟩, by simp [intOf]; omega⟩
      · have HN : Hid (jnP xs sep (k + 1) = S ++ sep ++ DX) := by show _ = _; rw [jnP_step hk0 hxx.out, hS.out, HDX.out]
        have k0 : (0 : Int) < (k : Int) := by omega
        have y1 : ¬ 9223372036854775807 < S.size + sep.size := by omega
        have y2 : ¬ 9223372036854775807 < S.size + sep.size + DX.size := by omega
        have HSZ : (S ++ sep ++ DX).size ≤ (k + 1) * 31 := by rw [ByteArray.size_append, ByteArray.size_append]; omega
        have HB := Lib.hid hb
        clear hxx hS hsz hk0 hb
        go_wp2_with fail
        with_reducible refine (l01Dec_any x _ hxi).mono ?_
        rintro e w3 ⟨rfl, hb3⟩
        rw [HDX.out]
        have HB3 := Lib.hid (below_app HB.out hb3 hbs)
        clear hb3
        go_wp2
        exact ⟨⟨k + 1, _, by omega, by go_num, rfl, HN.out, HSZ, HB3.out⟩, by simp [intOf]; omega⟩
    · have hkn : k = n := by omega
      subst hkn
      have HS : Hid (jnB (xs.map decS) sep = S) := by show _ = _; rw [← hS.out]; unfold jnP; rw [List.take_of_length_le (by rw [HL.out]; exact Nat.le_refl _)]
      have HB := Lib.hid hb
      clear hb hS
      go_wp2
      go_ret
      rw [HS.out]
      exact ⟨rfl, HB.out⟩
def flP (xs : List T3) (k : Nat) : ByteArray := if k = 0 then ⟨#[]⟩ else ⟨#[32]⟩ ++ ftT (xs.take k)
theorem flP_step {xs : List T3} {p : T3} {k : Nat} (h : xs[k]? = some p) : flP xs (k + 1) = flP xs k ++ (⟨#[32]⟩ ++ ftS p) := by
  unfold flP
  rw [if_neg (by omega)]
  rcases Nat.eq_zero_or_pos k with hk | hk
  · subst hk
    rw [if_pos rfl, empty_app, ftT_one h]
  · rw [if_neg (by omega), ftT_step hk h]
    apply ByteArray.ext
    simp [Array.append_assoc]
theorem flP_size {xs : List T3} (h : ∀ x ∈ xs, ok3 x) (k : Nat) : (flP xs k).size ≤ k * 67 + 1 := by
  unfold flP
  split
  · rename_i h0; subst h0; decide
  · rw [ByteArray.size_append, show (⟨#[32]⟩ : ByteArray).size = 1 from rfl]
    have h1 := ftT_size (xs := xs.take k) (fun z hz => h z (List.mem_of_mem_take hz))
    rw [List.length_take] at h1
    have h2 : min k xs.length * 67 ≤ k * 67 := Nat.mul_le_mul_right _ (by omega)
    omega
set_option maxRecDepth 100000 in
set_option maxHeartbeats 4000000 in
theorem l11FeatsText_any (A : Option Addr) (n c : Nat) (xs : List T3) (w : World) (hr : RdL c3 3 w w.heap.size A n c xs) (hn : n ≤ 1048576) (hx : ∀ x ∈ xs, ok3 x) :
    Calls Tryd.prog 51 #[.slice A n c] w fun e w' => e = .returned (.string (flP xs n)) ∧ Below w.heap.size w w' := by
  have HL := Lib.hid hr.len
  have HR := Lib.hid hr
  clear hr
  go_enter Tryd.func51, Tryd.ntmps51
  go_wp2_with fail
  go_loopw [3, 4] (fun q i wr => ∃ (k : Nat) (S : ByteArray), k ≤ n ∧ i = .int .i64 k ∧ q = .string S ∧ Hid (flP xs k = S) ∧ S.size ≤ k * 67 + 1 ∧ Below w.heap.size w wr) (fun _ i _ => n - (intOf i).toNat)
  case atStart => exact ⟨0, ⟨#[]⟩, by omega, rfl, rfl, rfl, by decide, Below.refl _ _⟩
  case round =>
    obtain ⟨k, S, hk, rfl, rfl, hS, hsz, hb⟩ := hrel
    have hbs := hb.size
    by_cases hlt : k < n
    · obtain ⟨b, off, x, y, d, rfl, hbl, hxx, q0, q1, q2⟩ := (HR.out.on hb).at3 hlt
      have hxo := hx _ (List.mem_of_getElem? hxx.out)
      have z1 := ftS_size hxo
      obtain ⟨hxa, hxb, hxc⟩ : I64 x ∧ I64 y ∧ I64 d := hxo
      obtain ⟨F, hF⟩ : ∃ F, ftS (x, y, d) = F := ⟨_, rfl⟩
      rw [hF] at z1
      have HF : Hid (jnB ([x, y, d].map decS) ⟨#[44]⟩ = F) := hF
      have HN : Hid (flP xs (k + 1) = S ++ (⟨#[32]⟩ ++ F)) := by show _ = _; rw [flP_step hxx.out, hS.out, hF]
      have HSZ : Hid ((S ++ (⟨#[32]⟩ ++ F)).size ≤ (k + 1) * 67 + 1) := by show _ ≤ _; rw [← HN.out]; exact flP_size hx _
      have HI : Hid (∀ z ∈ [x, y, d], I64 z) := by
        intro z hz
        simp only [List.mem_cons, List.mem_nil_iff, or_false] at hz
        rcases hz with rfl | rfl | rfl
        · exact hxa
        · exact hxb
        · exact hxc
      have i1 : (k : Int) < (n : Int) := by omega
      have i2 : (0 : Int) ≤ (k : Int) := by omega
      have y1 : ¬ 9223372036854775807 < 1 + F.size := by omega
      have y2 : ¬ 9223372036854775807 < S.size + (1 + F.size) := by omega
      have HB := Lib.hid hb
      clear hF hS hxx hsz hb hxa hxb hxc
      go_wp2_with fail
      go_region_held3 (fun w' => (∀ b o, b < wr.heap.size → w'.cell? ⟨b, o, none⟩ = wr.cell? ⟨b, o, none⟩) ∧ Below wr.heap.size wr w') (first | exact sk (Below.refl _ _).drew | (go_split_ands; first | exact sk ‹_› | exact sk (Below.alloc ‹_› (Below.size ‹_›) _) | exact sk (below_app ‹_› hbw3 (Below.size ‹_›)) | exact sk (below_app (Below.alloc ‹_› (Below.size ‹_›) _) hbw3 (Below.size (Below.alloc ‹_› (Below.size ‹_›) _))))) (first | (go_at_call 69; with_reducible refine (l03Join_any _ _ _ [x, y, d] _ _ (rd3_blk (by first | exact Blk.new _ _ _ | exact Blk.drew (Blk.new _ _ _))) (by decide) HI.out (by decide)).mono ?_; rintro e w3 ⟨rfl, hbw3⟩; rw [HF.out]))
      all_goals
        have hb5 : Below wr.heap.size wr w3 := (((Below.refl wr.heap.size wr).alloc (Nat.le_refl _) _).drew).trans (hbw3.mono (by show wr.heap.size ≤ (wr.alloc _).heap.size; simp))
        have HB5 := Lib.hid (below_app HB.out hb5 hbs)
        clear hb5 hbw3
        go_wp2
        exact ⟨⟨k + 1, _, by omega, by go_num, rfl, HN.out, HSZ.out, HB5.out⟩, by simp [intOf]; omega⟩
    · have hkn : k = n := by omega
      subst hkn
      have HB := Lib.hid hb
      clear hb
      go_wp2
      go_ret
      rw [hS.out]
      exact ⟨rfl, HB.out⟩
theorem tmT_eq {s : ByteArray} {x : List T3} {n : Nat} (hl : x.length = n) (h0 : 0 < n) : tmT (s, x) = ⟨#[116, 101, 109, 112, 108, 97, 116, 101, 32]⟩ ++ s ++ flP x n ++ ⟨#[10]⟩ := by
  unfold tmT flP
  rw [if_neg (by omega), List.take_of_length_le (by omega)]
  apply ByteArray.ext
  simp [Array.append_assoc]
set_option maxRecDepth 100000 in
set_option maxHeartbeats 8000000 in
theorem l11Text_ptr (z : Int) (A : Option Addr) (m cb : Nat) (ts : List TV) (w : World) (g0 : Nat) (K0 : Cel w g0 0 (.int .i64 z)) (K1 : Cel w g0 1 (.slice A m cb)) (hs : TL w w.heap.size A m cb ts) (hm : totT ts ≤ 1048576) (h0 : storeB z ts = true) :
    Calls Tryd.prog 32 #[.pointer (some ⟨g0, 0, none⟩)] w fun e w' => e = .returned (.string (stP z ts m)) ∧ Below w.heap.size w w' := by
  have hl := Lib.hid hs.len
  have HM := Lib.hid hm
  have H0 := Lib.hid h0
  have hm40 : m ≤ 40 := by have h := storeB_len h0; rw [hl.out] at h; exact h
  have hzI : I64 z := by have h := storeB_band h0; exact ⟨by omega, by omega⟩
  have HS := Lib.hid hs
  have KK0 := Lib.hid K0
  have KK1 := Lib.hid K1
  have k0 := K0.cell
  have kz := K0.lt
  clear hm h0 hs K0 K1
  go_enter Tryd.func32, Tryd.ntmps32
  go_wp2_with fail
  clear k0 kz
  with_reducible refine (l01Dec_any z _ hzI).mono ?_
  rintro e w2 ⟨rfl, hb2⟩
  obtain ⟨DZ, hDZ⟩ : ∃ S, decS z = S := ⟨_, rfl⟩
  have zDZ : DZ.size ≤ 21 := hDZ ▸ decS_size hzI
  rw [hDZ]
  have HDZ := Lib.hid hDZ
  have y1 : ¬ 9223372036854775807 < 6 + DZ.size := by omega
  have y2 : ¬ 9223372036854775807 < 6 + DZ.size + 1 := by omega
  have h00 : Hid (stP z ts 0 = ⟨#[115, 116, 111, 114, 101, 32]⟩ ++ DZ ++ ⟨#[10]⟩) := by show _ = _; rw [stP, hDZ]
  have h01 : (⟨#[115, 116, 111, 114, 101, 32]⟩ ++ DZ ++ ⟨#[10]⟩ : ByteArray).size ≤ 100 := by
    rw [ByteArray.size_append, ByteArray.size_append, show (⟨#[115, 116, 111, 114, 101, 32]⟩ : ByteArray).size = 6 from rfl, show (⟨#[10]⟩ : ByteArray).size = 1 from rfl]; omega
  have H01 := Lib.hid h01
  clear hDZ h01
  go_wp2_with fail
  go_loopw [3, 4] (fun q i wr => ∃ (k : Nat) (S : ByteArray), k ≤ m ∧ i = .int .i64 k ∧ q = .string S ∧ Hid (stP z ts k = S) ∧ S.size ≤ 100 + k * 2000000 ∧ Below w.heap.size w wr) (fun _ i _ => m - (intOf i).toNat)
  case atStart => exact ⟨0, _, by omega, rfl, rfl, h00.out, by have := H01.out; omega, hb2⟩
  case round =>
    clear hb2 h00 H01 y1 y2
    obtain ⟨k, S, hk, rfl, rfl, hS, hSz, hb⟩ := hrel
    have hsz := hb.size
    have q1 := (KK1.out.on hb).cell
    have qz := (KK1.out.on hb).lt
    by_cases hlt : k < m
    · obtain ⟨b, off, s, B', m', cb', x, rfl, hbl, hx, r0, r1, hx3⟩ := (HS.out.on hb).at_ hlt
      have hsa := storeB_at H0.out hx.out
      have hok := featsOk_ok3 hsa.2
      obtain ⟨l1, l2⟩ := featsOk_len9 hsa.2
      have hm'l := hx3.len
      rw [hm'l] at l1 l2
      have hss : s.size ≤ 1048576 := (totT_mem hx.out HM.out).1
      have hF := flP_size hok m'
      have hTM := tmT_eq (s := s) hm'l (by omega)
      obtain ⟨F, hFF⟩ : ∃ F, flP x m' = F := ⟨_, rfl⟩
      rw [hFF] at hF hTM
      have HFF := Lib.hid hFF
      have HN : Hid (stP z ts (k + 1) = S ++ (⟨#[116, 101, 109, 112, 108, 97, 116, 101, 32]⟩ ++ s ++ F ++ ⟨#[10]⟩)) := by show _ = _; rw [stP_step hx.out, hS.out, hTM]
      have HSZ : Hid ((S ++ (⟨#[116, 101, 109, 112, 108, 97, 116, 101, 32]⟩ ++ s ++ F ++ ⟨#[10]⟩)).size ≤ 100 + (k + 1) * 2000000) := by
        show _ ≤ _
        rw [ByteArray.size_append, ByteArray.size_append, ByteArray.size_append, ByteArray.size_append, show (⟨#[116, 101, 109, 112, 108, 97, 116, 101, 32]⟩ : ByteArray).size = 9 from rfl, show (⟨#[10]⟩ : ByteArray).size = 1 from rfl]; omega
      have HX3 := Lib.hid hx3
      have HOK := Lib.hid hok
      have i1 : (k : Int) < (m : Int) := by omega
      have i2 : (0 : Int) ≤ (k : Int) := by omega
      have y1 : ¬ 9223372036854775807 < 9 + s.size := by omega
      have y2 : ¬ 9223372036854775807 < 9 + s.size + F.size := by omega
      have y3 : ¬ 9223372036854775807 < 9 + s.size + F.size + 1 := by omega
      have y4 : ¬ 9223372036854775807 < S.size + (9 + s.size + F.size + 1) := by omega
      have HB := Lib.hid hb
      clear hsa hok hx3 hx hS hFF hTM hm'l hb
      go_wp2_with fail
      go_region_held3 (fun w' => (∀ b o, b < wr.heap.size → w'.cell? ⟨b, o, none⟩ = wr.cell? ⟨b, o, none⟩) ∧ Below wr.heap.size wr w') (first | exact sk (Below.refl _ _).drew | (go_split_ands; first | exact sk ‹_› | exact sk (below_app ‹_› hbw3 (Below.size ‹_›)))) (first | (go_at_call 51; with_reducible refine (l11FeatsText_any _ _ _ x _ (HX3.out.on ((Below.refl _ _).drew)) (by omega) HOK.out).mono ?_; rintro e w3 ⟨rfl, hbw3⟩; rw [HFF.out]))
      all_goals
        have hb5 : Below wr.heap.size wr w3 := ((Below.refl wr.heap.size wr).drew).trans hbw3
        have HB5 := Lib.hid (below_app HB.out hb5 hsz)
        clear hb5 hbw3
        go_wp2
        exact ⟨⟨k + 1, _, by omega, by go_num, rfl, HN.out, HSZ.out, HB5.out⟩, by simp [intOf]; omega⟩
    · have hkm : k = m := by omega
      subst hkm
      have HB := Lib.hid hb
      clear hb
      go_wp2
      go_ret
      rw [hS.out]
      exact ⟨rfl, HB.out⟩
set_option maxHeartbeats 4000000 in
theorem sStoreText_any (z : Int) (A : Option Addr) (m cb : Nat) (ts : List TV) (w : World) (hs : TL w w.heap.size A m cb ts) (hm : totT ts ≤ 1048576) :
    Calls Tryd.prog 16 #[.agg #[.int .i64 z, .slice A m cb]] w fun e w' => e = .returned (.string (stR z ts)) ∧ Below w.heap.size w w' := by
  have hl := Lib.hid hs.len
  have HM := Lib.hid hm
  clear hm
  cases h0 : storeB z ts with
  | false =>
    have F : Hid (stR z ts = ⟨#[]⟩) := by show _ = _; unfold stR; rw [h0]; rfl
    have H0 := Lib.hid h0
    clear h0
    go_enter Tryd.func16, Tryd.ntmps16
    go_wp2_with fail
    have K0 := Blk.new (w) 40 #[.int .i64 z, .slice A m cb]
    have hbv : Below (w).heap.size (w) ((w).alloc (.cells #[.int .i64 z, .slice A m cb] 40)) := (Below.refl _ _).alloc (Nat.le_refl _) _
    replace hs := hs.on hbv
    generalize (w).alloc (.cells #[.int .i64 z, .slice A m cb] 40) = v at *
    with_reducible refine (l11Ok_ptr z _ _ _ ts _ _ (Blk.at2 K0).1 (Blk.at2 K0).2 hs HM.out).mono ?_
    rintro e w1 ⟨rfl, hb1⟩
    rw [H0.out]
    clear hs
    go_wp2
    go_ret
    rw [F.out]
    exact ⟨rfl, below_on hb1 hbv⟩
  | true =>
    have F : Hid (stR z ts = stP z ts m) := by show _ = _; unfold stR; rw [h0, hl.out]; rfl
    have H0 := Lib.hid h0
    clear h0
    go_enter Tryd.func16, Tryd.ntmps16
    go_wp2_with fail
    have K0 := Blk.new (w) 40 #[.int .i64 z, .slice A m cb]
    have hbv : Below (w).heap.size (w) ((w).alloc (.cells #[.int .i64 z, .slice A m cb] 40)) := (Below.refl _ _).alloc (Nat.le_refl _) _
    replace hs := hs.on hbv
    generalize (w).alloc (.cells #[.int .i64 z, .slice A m cb] 40) = v at *
    with_reducible refine (l11Ok_ptr z _ _ _ ts _ _ (Blk.at2 K0).1 (Blk.at2 K0).2 hs HM.out).mono ?_
    rintro e w1 ⟨rfl, hb1⟩
    rw [H0.out]
    replace hs := hs.on hb1
    replace K0 := K0.on hb1
    replace hbv := below_on hb1 hbv
    go_wp2_with fail
    with_reducible refine (l11Text_ptr z _ _ _ ts _ _ (Blk.at2 K0).1 (Blk.at2 K0).2 hs HM.out H0.out).mono ?_
    rintro e w3 ⟨rfl, hb3⟩
    have HB := Lib.hid (below_on hb3 hbv)
    clear hs K0
    go_wp2
    go_ret
    rw [F.out]
    exact ⟨rfl, HB.out⟩
end Go.Proofs.YtnjifhlabbejoaaDoor
