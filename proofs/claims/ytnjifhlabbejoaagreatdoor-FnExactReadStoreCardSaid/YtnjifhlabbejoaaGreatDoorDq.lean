/- Plain law of reading: what is split and joined again, what is read as a number and written again. -/
import Derived.Test.YtnjifhlabbejoaaGreatDoorFt
import Derived.Lib.SplitLaws
import Derived.Lib.Atoi
import Derived.Lib.ParseIntBTie
import Derived.Lib.ParseIntBCases
import Derived.Lib.AtoiAllCases
import Derived.Lib.Strings
namespace Go.Proofs.YtnjifhlabbejoaaGreatDoor
open Go.RowKit
set_option linter.unusedVariables false
set_option linter.unusedSimpArgs false
/-! ### Splits at one byte -/
def spl (c : UInt8) : List UInt8 → List (List UInt8)
  | [] => [[]]
  | b :: r => if b = c then [] :: spl c r else match spl c r with
    | [] => [[b]]
    | h :: t => (b :: h) :: t
theorem spl_ne (c : UInt8) : ∀ l, spl c l ≠ []
  | [] => by simp [spl]
  | b :: r => by
    unfold spl
    split
    · simp
    · split <;> simp
theorem spl_eq (c : UInt8) (r : List UInt8) : spl c (c :: r) = [] :: spl c r := by rw [spl, if_pos rfl]
theorem spl_cons {b c : UInt8} (h : b ≠ c) {r x : List UInt8} {t : List (List UInt8)} (hr : spl c r = x :: t) : spl c (b :: r) = (b :: x) :: t := by rw [spl, if_neg h, hr]
theorem spl_form (c : UInt8) (l : List UInt8) : ∃ x t, spl c l = x :: t := by
  cases h : spl c l with
  | nil => exact absurd h (spl_ne c l)
  | cons x t => exact ⟨x, t, rfl⟩
theorem spl_miss (c : UInt8) : ∀ l : List UInt8, c ∉ l → spl c l = [l]
  | [], _ => rfl
  | b :: r, h => by
    rw [List.mem_cons, not_or] at h
    exact spl_cons (Ne.symm h.1) (spl_miss c r h.2)
theorem spl_hit (c : UInt8) (r : List UInt8) : ∀ x : List UInt8, c ∉ x → spl c (x ++ c :: r) = x :: spl c r
  | [], _ => spl_eq c r
  | b :: x, h => by
    rw [List.mem_cons, not_or] at h
    exact spl_cons (Ne.symm h.1) (spl_hit c r x h.2)
theorem join_two (x y : List UInt8) (r : List (List UInt8)) (sep : List UInt8) : Lib.join (x :: y :: r) sep = x ++ sep ++ Lib.join (y :: r) sep := by
  rw [Lib.join_cons, Lib.join_cons]
  simp [Lib.joinTail, List.append_assoc]
theorem join_head (b : UInt8) (x : List UInt8) (t : List (List UInt8)) (sep : List UInt8) : Lib.join ((b :: x) :: t) sep = b :: Lib.join (x :: t) sep := by
  rw [Lib.join_cons, Lib.join_cons]; rfl
theorem join_spl (c : UInt8) : ∀ l : List UInt8, Lib.join (spl c l) [c] = l
  | [] => by rw [spl, Lib.join_one]
  | b :: r => by
    obtain ⟨x, t, h⟩ := spl_form c r
    have ih := join_spl c r
    by_cases hb : b = c
    · subst hb
      rw [spl_eq, h, join_two, ← h, ih]; rfl
    · rw [spl_cons hb h, join_head, ← h, ih]
theorem spl_join (c : UInt8) : ∀ (x : List UInt8) (r : List (List UInt8)), (∀ y ∈ x :: r, c ∉ y) → spl c (Lib.join (x :: r) [c]) = x :: r
  | x, [], h => by rw [Lib.join_one]; exact spl_miss c x (h x List.mem_cons_self)
  | x, y :: r, h => by
    rw [join_two, List.append_assoc, List.singleton_append, spl_hit c _ x (h x List.mem_cons_self), spl_join c y r (fun z hz => h z (List.mem_cons_of_mem _ hz))]
theorem spl_len (c : UInt8) : ∀ l : List UInt8, (spl c l).length ≤ l.length + 1
  | [] => by simp [spl]
  | b :: r => by
    obtain ⟨x, t, h⟩ := spl_form c r
    have ih := spl_len c r
    by_cases hb : b = c
    · subst hb; rw [spl_eq]; simp only [List.length_cons]; omega
    · rw [spl_cons hb h]; rw [h] at ih; simp only [List.length_cons] at ih ⊢; omega
theorem spl_le (c : UInt8) : ∀ l : List UInt8, ∀ x ∈ spl c l, x.length ≤ l.length
  | [], x, hx => by simp [spl] at hx; subst hx; simp
  | b :: r, z, hz => by
    obtain ⟨x, t, h⟩ := spl_form c r
    have ih := spl_le c r
    by_cases hb : b = c
    · subst hb; rw [spl_eq] at hz
      rcases List.mem_cons.1 hz with rfl | h2
      · simp
      · have := ih z h2; simp only [List.length_cons]; omega
    · rw [spl_cons hb h] at hz
      rcases List.mem_cons.1 hz with rfl | h2
      · have := ih x (by rw [h]; exact List.mem_cons_self); simp only [List.length_cons]; omega
      · have := ih z (by rw [h]; exact List.mem_cons_of_mem _ h2); simp only [List.length_cons]; omega
theorem split_spl (c : UInt8) : ∀ l : List UInt8, Lib.splitK [c] 0 (Lib.count l [c]) l = spl c l
  | [] => by
    rw [Lib.count_one]; rfl
  | b :: r => by
    have ih := split_spl c r
    by_cases hb : b = c
    · subst hb
      have hix : Lib.index (b :: r) [b] = ((0 : Nat) : Int) := by rw [Lib.index]; simp [List.isPrefixOf]
      rw [spl_eq, Lib.count_cons_eq, Nat.add_comm, Lib.splitK, hix, if_neg (by decide)]
      simp [ih]
    · have hp : ([c] : List UInt8).isPrefixOf (b :: r) = false := by simp [List.isPrefixOf, Ne.symm hb]
      have hix : Lib.index (b :: r) [c] = if Lib.index r [c] == -1 then -1 else Lib.index r [c] + 1 := by rw [Lib.index, hp]; simp
      rw [Lib.count_cons_ne b c r hb]
      by_cases hm : Lib.index r [c] = -1
      · rw [Lib.count_miss hm] at ih ⊢
        rw [spl_cons hb (show spl c r = r :: [] by rw [← ih]; rfl)]; rfl
      · have hge := Lib.index_ge r [c]
        obtain ⟨j, hj⟩ : ∃ j : Nat, Lib.index r [c] = j := ⟨(Lib.index r [c]).toNat, by omega⟩
        have hix' : Lib.index (b :: r) [c] = ((j + 1 : Nat) : Int) := by rw [hix, if_neg (fun e => hm (beq_iff_eq.1 e)), hj]; omega
        rw [Lib.count_hit (by simp) hj, Nat.add_comm] at ih ⊢
        rw [Lib.splitK, hj, if_neg (fun e => by have := beq_iff_eq.1 e; omega)] at ih
        rw [Lib.splitK, hix', if_neg (fun e => by have := beq_iff_eq.1 e; omega)]
        rw [spl_cons hb ih.symm]
        simp
theorem toB_toList (s : ByteArray) : (⟨s.data.toList.toArray⟩ : ByteArray) = s := by apply ByteArray.ext; simp
def splS (c : UInt8) (s : ByteArray) : List ByteArray := (spl c s.data.toList).map fun l => ⟨l.toArray⟩
theorem splS_data (c : UInt8) (s : ByteArray) : (splS c s).map (·.data.toList) = spl c s.data.toList := by
  unfold splS; rw [List.map_map]
  exact (List.map_congr_left (fun x _ => rfl)).trans (List.map_id _)
theorem back_data : ∀ {xs ys : List ByteArray}, xs.map (·.data.toList) = ys.map (·.data.toList) → xs = ys
  | [], [], _ => rfl
  | [], _ :: _, h => by simp at h
  | _ :: _, [], h => by simp at h
  | x :: xs, y :: ys, h => by
    rw [List.map_cons, List.map_cons, List.cons.injEq] at h
    have e : x = y := by rw [← toB_toList x, ← toB_toList y, h.1]
    rw [e, back_data h.2]
theorem splitB_spl (c : UInt8) (s : ByteArray) : Lib.splitB ⟨#[c]⟩ 0 (Lib.countB s ⟨#[c]⟩) s = splS c s := by
  apply back_data
  rw [Lib.splitB_data, splS_data]
  exact split_spl c _
theorem countB_spl (c : UInt8) (s : ByteArray) : Lib.countB s ⟨#[c]⟩ + 1 = (splS c s).length := by
  rw [← splitB_spl, Lib.splitB_all ⟨#[c]⟩ (by show 1 ≤ 1; decide) 0 _ s rfl]
theorem jnB_splS (c : UInt8) (s : ByteArray) : jnB (splS c s) ⟨#[c]⟩ = s := by
  unfold jnB
  rw [splS_data, show (⟨#[c]⟩ : ByteArray).data.toList = [c] from rfl, join_spl, toB_toList]
theorem splS_jnB {c : UInt8} {ss : List ByteArray} (h0 : ss ≠ []) (h : ∀ s ∈ ss, c ∉ s.data.toList) : splS c (jnB ss ⟨#[c]⟩) = ss := by
  apply back_data
  rw [splS_data]
  match ss, h0 with
  | x :: r, _ =>
    show spl c (Lib.join _ [c]) = _
    rw [List.map_cons]
    refine spl_join c _ _ ?_
    intro y hy
    obtain ⟨z, hz, rfl⟩ := List.mem_map.1 (show y ∈ (x :: r).map (·.data.toList) from hy)
    exact h z hz
theorem splS_ne (c : UInt8) (s : ByteArray) : splS c s ≠ [] := by
  unfold splS; intro h; exact spl_ne c _ (List.map_eq_nil_iff.1 h)
theorem splS_len (c : UInt8) (s : ByteArray) : 1 ≤ (splS c s).length ∧ (splS c s).length ≤ s.size + 1 := by
  constructor
  · exact List.length_pos_iff.2 (splS_ne c s)
  · unfold splS; rw [List.length_map]
    exact spl_len c _
theorem splS_size {c : UInt8} {s x : ByteArray} (h : x ∈ splS c s) : x.size ≤ s.size := by
  unfold splS at h
  obtain ⟨l, hl, rfl⟩ := List.mem_map.1 h
  show (List.toArray l).size ≤ _
  rw [List.size_toArray]
  exact spl_le c _ l hl
/-! ### Numbers -/
theorem decDigits_ind {Q : Nat → List UInt8 → Prop} (h1 : ∀ m, m < 10 → Q m [UInt8.ofNat (48 + m)]) (h2 : ∀ m, 10 ≤ m → Q (m / 10) (Lib.decDigits (m / 10)) → Q m (Lib.decDigits (m / 10) ++ [UInt8.ofNat (48 + m % 10)])) (m : Nat) : Q m (Lib.decDigits m) := by
  induction m using Nat.strongRecOn with
  | _ m ih =>
    by_cases h : m < 10
    · rw [Lib.decDigits_one h]; exact h1 m h
    · rw [Lib.decDigits, dif_neg h]
      exact h2 m (by omega) (ih (m / 10) (by omega))
theorem digOf {d : Nat} (h : d < 10) : (UInt8.ofNat (48 + d)).toNat = 48 + d := by rw [UInt8.toNat_ofNat']; omega
theorem decDigits_dig (m : Nat) : Lib.decDigits m ≠ [] ∧ ∀ b ∈ Lib.decDigits m, 48 ≤ b.toNat ∧ b.toNat ≤ 57 := by
  refine decDigits_ind (Q := fun _ l => l ≠ [] ∧ ∀ b ∈ l, 48 ≤ b.toNat ∧ b.toNat ≤ 57) ?_ ?_ m
  · intro m hm
    refine ⟨by simp, fun b hb => ?_⟩
    rw [List.mem_singleton] at hb; subst hb
    rw [digOf hm]; omega
  · intro m hm ih
    refine ⟨by simp, fun b hb => ?_⟩
    rcases List.mem_append.1 hb with h | h
    · exact ih.2 b h
    · rw [List.mem_singleton] at h; subst h
      rw [digOf (Nat.mod_lt _ (by decide))]; omega
theorem decFrom_snoc (b : UInt8) : ∀ (l : List UInt8) (acc : Nat), Lib.decFrom acc (l ++ [b]) = (Lib.decFrom acc l).bind fun m => (Lib.digitVal b).map fun d => m * 10 + d
  | [], acc => by
    simp only [List.nil_append, Lib.decFrom, Option.bind_some]
    cases Lib.digitVal b <;> rfl
  | a :: l, acc => by
    simp only [List.cons_append, Lib.decFrom]
    cases Lib.digitVal a with
    | none => rfl
    | some d => exact decFrom_snoc b l _
theorem digitVal_of {d : Nat} (h : d < 10) : Lib.digitVal (UInt8.ofNat (48 + d)) = some d := by
  unfold Lib.digitVal
  rw [digOf h, if_pos (by omega)]
  congr 1; omega
theorem decFrom_digits (m : Nat) : Lib.decFrom 0 (Lib.decDigits m) = some m := by
  refine decDigits_ind (Q := fun m l => Lib.decFrom 0 l = some m) ?_ ?_ m
  · intro m hm
    simp only [Lib.decFrom, digitVal_of hm]
    simp
  · intro m hm ih
    rw [decFrom_snoc, ih, Option.bind_some, digitVal_of (Nat.mod_lt _ (by decide)), Option.map_some]
    congr 1; omega
theorem parse_snoc (b : UInt8) : ∀ (l : List UInt8) (acc a : Nat), Lib.parseUint10 acc l = .ok a → Lib.parseUint10 acc (l ++ [b]) = Lib.parseUint10 a [b]
  | [], acc, a, h => by
    simp only [Lib.parseUint10] at h
    injection h with h
    rw [h]; rfl
  | x :: l, acc, a, h => by
    simp only [Lib.parseUint10] at h
    split at h
    · rename_i hx
      split at h
      · cases h
      · rename_i h3
        split at h
        · cases h
        · rename_i h4
          rw [List.cons_append]
          rw [Lib.parseUint10, if_pos hx, if_neg h3, if_neg h4]
          exact parse_snoc b l _ a h
    · cases h
theorem parse_digits (m : Nat) : m < 18446744073709551616 → Lib.parseUint10 0 (Lib.decDigits m) = .ok m := by
  refine decDigits_ind (Q := fun m l => m < 18446744073709551616 → Lib.parseUint10 0 l = .ok m) ?_ ?_ m
  · intro m hm _
    rw [Lib.parseUint10, digOf hm, if_pos (by omega), if_neg (by omega), if_neg (by omega), Lib.parseUint10]
    congr 1; omega
  · intro m hm ih hb
    rw [parse_snoc _ _ _ _ (ih (by omega)), Lib.parseUint10, digOf (Nat.mod_lt _ (by decide)), if_pos (by omega), if_neg (by omega), if_neg (by omega), Lib.parseUint10]
    congr 1; omega
theorem parse_itoa {n : Int} (h : I64 n) : Lib.parseIntB 64 (Lib.itoa n) = .ok n := by
  obtain ⟨h0, h1⟩ := h
  rw [Lib.parseIntB_64]
  unfold Lib.itoa
  split
  · rename_i hn
    rw [Lib.atoiAll_minus]
    unfold Lib.parseMag
    rw [if_neg (decDigits_dig _).1, parse_digits _ (by omega)]
    unfold Lib.signed
    simp only
    rw [if_neg (by omega)]
    congr 1; omega
  · rename_i hn
    obtain ⟨hne, hd⟩ := decDigits_dig n.toNat
    have hp := parse_digits n.toNat (by omega)
    cases hl : Lib.decDigits n.toNat with
    | nil => exact absurd hl hne
    | cons c r =>
      rw [hl] at hd hp
      have hc := hd c List.mem_cons_self
      rw [Lib.atoiAll_plain c r (by omega) (by omega)]
      unfold Lib.parseMag
      rw [if_neg (by simp), hp]
      unfold Lib.signless
      simp only
      rw [if_neg (by omega)]
      congr 1; omega
def magL (l : List UInt8) : List UInt8 := Lib.trimPrefix l [45]
theorem magL_minus (l : List UInt8) : magL (45 :: l) = l := by
  unfold magL Lib.trimPrefix Lib.hasPrefix
  rw [if_pos (by simp [List.isPrefixOf])]; rfl
theorem magL_other {c : UInt8} (h : c ≠ 45) (l : List UInt8) : magL (c :: l) = c :: l := by
  unfold magL Lib.trimPrefix Lib.hasPrefix
  rw [if_neg (by simp [List.isPrefixOf, Ne.symm h])]
theorem magL_nil : magL [] = [] := rfl
theorem magL_itoa (n : Int) : magL (Lib.itoa n) = Lib.decDigits n.natAbs := by
  unfold Lib.itoa
  split
  · exact magL_minus _
  · rename_i hn
    obtain ⟨hne, hd⟩ := decDigits_dig n.toNat
    rw [show n.natAbs = n.toNat by omega]
    cases hl : Lib.decDigits n.toNat with
    | nil => exact absurd hl hne
    | cons c r =>
      rw [hl] at hd
      have hc := hd c List.mem_cons_self
      exact magL_other (by intro e; subst e; have h9 : (45 : UInt8).toNat = 45 := rfl; omega) r
/-- The number with a decimal form of at most 18 digits. -/
def numOf (l : List UInt8) : Option Int :=
  if (magL l).length < 1 ∨ 18 < (magL l).length then none
  else (Lib.decFrom 0 (magL l)).map fun (m : Nat) => if (magL l).length < l.length then -(m : Int) else (m : Int)
def rdD (s : ByteArray) : Option Int := match numOf s.data.toList with
  | some n => if decS n = s then some n else none
  | none => none
theorem numOf_itoa {n : Int} (h : Lib.nDigits n.natAbs ≤ 18) : numOf (Lib.itoa n) = some n := by
  unfold numOf
  have h1 := Lib.nDigits_pos n.natAbs
  rw [magL_itoa, Lib.decDigits_length, if_neg (by omega), decFrom_digits, Option.map_some]
  congr 1
  unfold Lib.itoa
  split
  · rw [if_pos (by rw [List.length_cons, Lib.decDigits_length]; omega)]; omega
  · rename_i hn
    rw [if_neg (by rw [Lib.decDigits_length, show n.toNat = n.natAbs by omega]; omega)]; omega
theorem decS_data (n : Int) : (decS n).data.toList = Lib.itoa n := by unfold decS; simp
theorem rdD_dec {n : Int} (h : Lib.nDigits n.natAbs ≤ 18) : rdD (decS n) = some n := by
  unfold rdD
  rw [decS_data, numOf_itoa h]
  simp
theorem rdD_some {s : ByteArray} {n : Int} (h : rdD s = some n) : decS n = s := by
  unfold rdD at h
  split at h
  · split at h
    · rename_i he; cases h; exact he
    · cases h
  · cases h
theorem nDigits_le : ∀ (k m : Nat), m < 10 ^ (k + 1) → Lib.nDigits m ≤ k + 1
  | 0, m, h => by rw [Lib.nDigits_small (by simpa using h)]; omega
  | k + 1, m, h => by
    by_cases h2 : m < 10
    · rw [Lib.nDigits_small h2]; omega
    · rw [Lib.nDigits_big h2]
      have := nDigits_le k (m / 10) (by rw [Nat.pow_succ] at h; omega)
      omega
theorem numOf_bd {l : List UInt8} {n : Int} (h : numOf l = some n) : -1000000000000000000 < n ∧ n < 1000000000000000000 := by
  unfold numOf at h
  split at h
  · cases h
  · rename_i hl
    obtain ⟨m, hm, he⟩ := Option.map_eq_some_iff.1 h
    have := Lib.decFrom_lt18 hm (by omega)
    split at he <;> omega
theorem rdD_bd {s : ByteArray} {n : Int} (h : rdD s = some n) : -1000000000000000000 < n ∧ n < 1000000000000000000 := by
  unfold rdD at h
  split at h
  · rename_i k hk
    split at h
    · cases h; exact numOf_bd hk
    · cases h
  · cases h
theorem rdD_I64 {s : ByteArray} {n : Int} (h : rdD s = some n) : I64 n := by
  obtain ⟨a, b⟩ := rdD_bd h
  exact ⟨by omega, by omega⟩
/-- Of the program's road: too short, too long. -/
theorem rdD_len {s : ByteArray} (h : (magL s.data.toList).length < 1 ∨ 18 < (magL s.data.toList).length) : rdD s = none := by
  unfold rdD numOf
  rw [if_pos h]
/-- What ParseInt reads and writes again. -/
theorem rdD_hit {s : ByteArray} {v : Int} (h1 : 1 ≤ (magL s.data.toList).length) (h2 : (magL s.data.toList).length ≤ 18) (h : decS v = s) : rdD s = some v := by
  subst h
  apply rdD_dec
  rw [decS_data, magL_itoa, Lib.decDigits_length] at h2
  exact h2
theorem rdD_miss {s : ByteArray} {v : Int} (h : Lib.parseIntB 64 s.data.toList = .ok v) (hne : decS v ≠ s) : rdD s = none := by
  cases hr : rdD s with
  | none => rfl
  | some n =>
    exfalso
    have h3 := rdD_some hr
    subst h3
    rw [decS_data, parse_itoa (rdD_I64 hr)] at h
    injection h with h
    exact hne (by rw [h])
theorem rdD_bad {s : ByteArray} (h : ∀ v, Lib.parseIntB 64 s.data.toList ≠ .ok v) : rdD s = none := by
  cases hr : rdD s with
  | none => rfl
  | some n =>
    exfalso
    have h3 := rdD_some hr
    have h4 := parse_itoa (rdD_I64 hr)
    rw [← decS_data, h3] at h4
    exact h n h4
/-! ### Words -/
theorem join_two_len (c : UInt8) : ∀ (x : List UInt8) (r : List (List UInt8)), (∀ y ∈ x :: r, y ≠ []) → 2 * (x :: r).length ≤ (Lib.join (x :: r) [c]).length + 1
  | x, [], h => by
    rw [Lib.join_one]
    have := List.length_pos_iff.2 (h x List.mem_cons_self)
    simp only [List.length_cons, List.length_nil]; omega
  | x, y :: r, h => by
    have ih := join_two_len c y r (fun z hz => h z (List.mem_cons_of_mem _ hz))
    have := List.length_pos_iff.2 (h x List.mem_cons_self)
    rw [join_two]
    simp only [List.length_cons, List.length_append, List.length_nil] at ih ⊢; omega
theorem splS_len2 {c : UInt8} {s : ByteArray} (h : ∀ x ∈ splS c s, x.size ≠ 0) : 2 * (splS c s).length ≤ s.size + 1 := by
  obtain ⟨x, t, hx⟩ := spl_form c s.data.toList
  have h2 : ∀ y ∈ x :: t, y ≠ [] := by
    intro y hy e
    rw [← hx] at hy
    have := h ⟨y.toArray⟩ (by unfold splS; exact List.mem_map.2 ⟨y, hy, rfl⟩)
    rw [e] at this
    exact this rfl
  have h3 := join_two_len c x t h2
  rw [← hx, join_spl] at h3
  unfold splS
  rw [List.length_map]
  exact h3
theorem decS_bytes {n : Int} {b : UInt8} (h : b ∈ (decS n).data.toList) : b.toNat = 45 ∨ (48 ≤ b.toNat ∧ b.toNat ≤ 57) := by
  rw [decS_data] at h
  unfold Lib.itoa at h
  split at h
  · rcases List.mem_cons.1 h with rfl | h2
    · exact .inl rfl
    · exact .inr ((decDigits_dig _).2 b h2)
  · exact .inr ((decDigits_dig _).2 b h)
theorem decS_not {n : Int} {c : UInt8} (h1 : c.toNat < 45) : c ∉ (decS n).data.toList := fun h => by
  have := decS_bytes h; omega
theorem ftS_not {p : T3} {c : UInt8} (h1 : c.toNat < 44) : c ∉ (ftS p).data.toList := fun h => by
  rw [ftS_eq] at h
  have e44 : ∀ {b : UInt8}, b ∈ (⟨#[44]⟩ : ByteArray).data.toList → b.toNat = 44 := fun hb => by
    have : _ = (44 : UInt8) := List.mem_singleton.1 hb
    rw [this]; rfl
  simp only [ByteArray.data_append, Array.toList_append, List.mem_append] at h
  rcases h with (((h | h) | h) | h) | h
  · have := decS_bytes h; omega
  · have := e44 h; omega
  · have := decS_bytes h; omega
  · have := e44 h; omega
  · have := decS_bytes h; omega
def numsL (s : ByteArray) : List Int := (splS 44 s).map fun p => (rdD p).getD 0
def wordI (s : ByteArray) : Option T3 := match numsL s with
  | [a, b, c] => some (a, b, c)
  | _ => none
def wordS (s : ByteArray) : Option T3 := match (splS 44 s).map rdD with
  | [some a, some b, some c] => some (a, b, c)
  | _ => none
theorem numsL_I64 {s : ByteArray} : ∀ x ∈ numsL s, I64 x := by
  intro x hx
  obtain ⟨p, _, rfl⟩ := List.mem_map.1 hx
  cases h : rdD p with
  | none => exact ⟨by decide, by decide⟩
  | some n => exact rdD_I64 h
theorem numsL_len (s : ByteArray) : (numsL s).length = (splS 44 s).length := by unfold numsL; rw [List.length_map]
theorem wordI_none {s : ByteArray} (h : (numsL s).length ≠ 3) : wordI s = none := by
  unfold wordI
  split
  · rename_i h2; rw [h2] at h; exact absurd rfl h
  · rfl
theorem wordI_some {s : ByteArray} {a b c : Int} (h : numsL s = [a, b, c]) : wordI s = some (a, b, c) := by unfold wordI; rw [h]
theorem len3 {α : Type} {l : List α} (h : l.length = 3) : ∃ a b c, l = [a, b, c] := by
  match l, h with
  | [a, b, c], _ => exact ⟨a, b, c, rfl⟩
theorem wordI_size {s : ByteArray} {p : T3} (h : wordI s = some p) : s.size ≠ 0 := fun h0 => by
  have h2 : splS 44 s = [⟨#[]⟩] := by
    have h3 : s.data.toList = [] := List.length_eq_zero_iff.1 (by rw [Array.length_toList]; exact h0)
    unfold splS; rw [h3]; rfl
  have h3 : (numsL s).length = 1 := by rw [numsL_len, h2]; rfl
  rw [wordI_none (by omega)] at h
  cases h
theorem wordS_size {s : ByteArray} {p : T3} (h : wordS s = some p) : s.size ≠ 0 := fun h0 => by
  have h2 : splS 44 s = [⟨#[]⟩] := by
    have h3 : s.data.toList = [] := List.length_eq_zero_iff.1 (by rw [Array.length_toList]; exact h0)
    unfold splS; rw [h3]; rfl
  unfold wordS at h
  rw [h2] at h
  cases h
/-- What is read strictly is written again. -/
theorem wordS_back {s : ByteArray} {p : T3} (h : wordS s = some p) : s = ftS p := by
  unfold wordS at h
  split at h
  · rename_i a b c h2
    cases h
    obtain ⟨x, y, z, h3⟩ := len3 (l := splS 44 s) (by have := congrArg List.length h2; simpa using this)
    rw [h3] at h2
    simp only [List.map_cons, List.map_nil, List.cons.injEq, and_true] at h2
    have h4 := jnB_splS 44 s
    rw [h3, ← rdD_some h2.1, ← rdD_some h2.2.1, ← rdD_some h2.2.2] at h4
    exact h4.symm
  · cases h
def smallI (n : Int) : Prop := -1000000000000000000 < n ∧ n < 1000000000000000000
theorem smallI_dig {n : Int} (h : smallI n) : Lib.nDigits n.natAbs ≤ 18 := nDigits_le 17 _ (by
  have e : (10 : Nat) ^ (17 + 1) = 1000000000000000000 := by decide
  obtain ⟨h1, h2⟩ := h
  omega)
def small3 (p : T3) : Prop := smallI p.1 ∧ smallI p.2.1 ∧ smallI p.2.2
theorem splS_ftS (p : T3) : splS 44 (ftS p) = [decS p.1, decS p.2.1, decS p.2.2] := by
  unfold ftS
  refine splS_jnB (by simp) ?_
  intro s hs
  simp only [List.mem_cons, List.mem_nil_iff, or_false] at hs
  rcases hs with rfl | rfl | rfl <;> exact decS_not (by decide)
theorem wordI_ftS {p : T3} (h : small3 p) : wordI (ftS p) = some p := by
  obtain ⟨h1, h2, h3⟩ := h
  refine wordI_some (a := p.1) (b := p.2.1) (c := p.2.2) ?_
  unfold numsL
  rw [splS_ftS]
  simp only [List.map_cons, List.map_nil, rdD_dec (smallI_dig h1), rdD_dec (smallI_dig h2), rdD_dec (smallI_dig h3), Option.getD_some]
theorem wordS_ftS {p : T3} (h : small3 p) : wordS (ftS p) = some p := by
  obtain ⟨h1, h2, h3⟩ := h
  unfold wordS
  rw [splS_ftS]
  simp only [List.map_cons, List.map_nil, rdD_dec (smallI_dig h1), rdD_dec (smallI_dig h2), rdD_dec (smallI_dig h3)]
theorem featsOk_small {m : Int} {xs : List T3} (h : featsOk m xs = true) : ∀ x ∈ xs, small3 x := by
  intro x hx
  have h1 := List.all_eq_true.1 (Bool.and_eq_true_iff.1 h).1 x hx
  obtain ⟨⟨a, b⟩, ⟨c, d⟩, e, f⟩ := featB_iff.1 h1
  exact ⟨⟨by omega, by omega⟩, ⟨by omega, by omega⟩, ⟨by omega, by omega⟩⟩
theorem splS_ftT {xs : List T3} (h : xs ≠ []) : splS 32 (ftT xs) = xs.map ftS := by
  unfold ftT
  refine splS_jnB (fun e => h (List.map_eq_nil_iff.1 e)) ?_
  intro s hs
  obtain ⟨p, _, rfl⟩ := List.mem_map.1 hs
  exact ftS_not (by decide)
theorem words_map {f : ByteArray → Option T3} {xs : List T3} (h : ∀ x ∈ xs, f (ftS x) = some x) : (xs.map ftS).map f = xs.map some := by
  rw [List.map_map]
  exact List.map_congr_left h
theorem map_some_inj {α : Type} : ∀ {xs ys : List α}, xs.map some = ys.map some → xs = ys
  | [], [], _ => rfl
  | [], _ :: _, h => by simp at h
  | _ :: _, [], h => by simp at h
  | x :: xs, y :: ys, h => by
    rw [List.map_cons, List.map_cons, List.cons.injEq] at h
    rw [Option.some.inj h.1, map_some_inj h.2]
theorem featsOk_ne {m : Int} {xs : List T3} (h : featsOk m xs = true) : xs ≠ [] := fun e => by
  have := (featsOk_len9 h).1
  rw [e] at this
  simp at this
theorem words_back {f : ByteArray → Option T3} (hf : ∀ {s p}, f s = some p → s = ftS p) : ∀ {ws : List ByteArray} {xs : List T3}, ws.map f = xs.map some → ws = xs.map ftS
  | [], [], _ => rfl
  | [], _ :: _, h => by simp at h
  | _ :: _, [], h => by simp at h
  | w :: ws, x :: xs, h => by
    rw [List.map_cons, List.map_cons, List.cons.injEq] at h
    rw [List.map_cons, ← hf h.1, ← words_back hf h.2]
/-- The features with a text. -/
def isFT (s : ByteArray) (L : List T3) : Prop := featsOk 384 L = true ∧ ftT L = s
open Classical in
noncomputable def rfO (s : ByteArray) : Option (List T3) := if h : ∃ L, isFT s L then some (Classical.choose h) else none
theorem rfO_some {s : ByteArray} {L : List T3} (h : rfO s = some L) : isFT s L := by
  unfold rfO at h
  split at h
  · rename_i h2
    cases h
    exact Classical.choose_spec h2
  · cases h
theorem isFT_words {s : ByteArray} {L : List T3} (h : isFT s L) : splS 32 s = L.map ftS := by
  rw [← h.2]; exact splS_ftT (featsOk_ne h.1)
theorem isFT_I {s : ByteArray} {L : List T3} (h : isFT s L) : (splS 32 s).map wordI = L.map some := by
  rw [isFT_words h]; exact words_map (fun x hx => wordI_ftS (featsOk_small h.1 x hx))
theorem isFT_S {s : ByteArray} {L : List T3} (h : isFT s L) : (splS 32 s).map wordS = L.map some := by
  rw [isFT_words h]; exact words_map (fun x hx => wordS_ftS (featsOk_small h.1 x hx))
theorem rfO_of {s : ByteArray} {L : List T3} (h : isFT s L) : rfO s = some L := by
  cases hr : rfO s with
  | none =>
    unfold rfO at hr
    split at hr
    · cases hr
    · rename_i h2; exact absurd ⟨L, h⟩ h2
  | some M =>
    have h2 := isFT_I (rfO_some hr)
    rw [isFT_I h] at h2
    rw [map_some_inj h2]
theorem rfO_missI {s : ByteArray} {x : ByteArray} (hx : x ∈ splS 32 s) (h : wordI x = none) : rfO s = none := by
  cases hr : rfO s with
  | none => rfl
  | some M =>
    have h2 := isFT_I (rfO_some hr)
    have h3 : none ∈ M.map some := by rw [← h2]; exact List.mem_map.2 ⟨x, hx, h⟩
    obtain ⟨y, _, hy⟩ := List.mem_map.1 h3
    cases hy
theorem rfO_missS {s : ByteArray} {x : ByteArray} (hx : x ∈ splS 32 s) (h : wordS x = none) : rfO s = none := by
  cases hr : rfO s with
  | none => rfl
  | some M =>
    have h2 := isFT_S (rfO_some hr)
    have h3 : none ∈ M.map some := by rw [← h2]; exact List.mem_map.2 ⟨x, hx, h⟩
    obtain ⟨y, _, hy⟩ := List.mem_map.1 h3
    cases hy
theorem rfO_I {s : ByteArray} {L : List T3} (h : (splS 32 s).map wordI = L.map some) (hn : ¬ isFT s L) : rfO s = none := by
  cases hr : rfO s with
  | none => rfl
  | some M =>
    have h2 := isFT_I (rfO_some hr)
    rw [h] at h2
    exact absurd (map_some_inj h2 ▸ rfO_some hr) hn
theorem isFT_ofS {s : ByteArray} {L : List T3} (h : (splS 32 s).map wordS = L.map some) (hv : featsOk 384 L = true) : isFT s L := by
  refine ⟨hv, ?_⟩
  unfold ftT
  rw [← words_back wordS_back h, jnB_splS]
theorem rfO_S {s : ByteArray} {L : List T3} (h : (splS 32 s).map wordS = L.map some) (hv : featsOk 384 L = false) : rfO s = none := by
  cases hr : rfO s with
  | none => rfl
  | some M =>
    have h2 := isFT_S (rfO_some hr)
    rw [h] at h2
    have h3 := (rfO_some hr).1
    rw [← map_some_inj h2, hv] at h3
    cases h3
noncomputable def rfL (s : ByteArray) : List T3 := (rfO s).getD []
noncomputable def rfB (s : ByteArray) : Bool := (rfO s).isSome
theorem words_lenI {s : ByteArray} {L : List T3} {f : ByteArray → Option T3} (hf : ∀ {s p}, f s = some p → s.size ≠ 0) (h : (splS 32 s).map f = L.map some) : 2 * (splS 32 s).length ≤ s.size + 1 := by
  apply splS_len2
  intro x hx
  have h3 : f x ∈ L.map some := by rw [← h]; exact List.mem_map.2 ⟨x, hx, rfl⟩
  obtain ⟨y, _, hy⟩ := List.mem_map.1 h3
  exact hf hy.symm
end Go.Proofs.YtnjifhlabbejoaaGreatDoor
