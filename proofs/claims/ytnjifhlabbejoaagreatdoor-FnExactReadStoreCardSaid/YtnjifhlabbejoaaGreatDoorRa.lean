/- Plain law of reading stores: lines, words, what is read and written again. -/
import Derived.Test.YtnjifhlabbejoaaGreatDoorDq
import Derived.Test.YtnjifhlabbejoaaGreatDoorBt
namespace Go.Proofs.YtnjifhlabbejoaaGreatDoor
open Go.RowKit
set_option linter.unusedVariables false
set_option linter.unusedSimpArgs false
abbrev wStore : ByteArray := ⟨#[115, 116, 111, 114, 101]⟩
abbrev wTempl : ByteArray := ⟨#[116, 101, 109, 112, 108, 97, 116, 101]⟩
abbrev bNl : ByteArray := ⟨#[10]⟩
abbrev bSp : ByteArray := ⟨#[32]⟩
abbrev bNo : ByteArray := ⟨#[]⟩
def tlW (t : TV) : List ByteArray := wTempl :: t.1 :: t.2.map ftS
def tlS (t : TV) : ByteArray := jnB (tlW t) bSp
def l0W (z : Int) : List ByteArray := [wStore, decS z]
def l0S (z : Int) : ByteArray := jnB (l0W z) bSp
def linS (z : Int) (ts : List TV) : List ByteArray := l0S z :: ts.map tlS
/-! ### Sums -/
theorem spl_sum (c : UInt8) : ∀ l : List UInt8, ((spl c l).map (fun x => x.length + 1)).sum = l.length + 1
  | [] => by simp [spl]
  | b :: r => by
    obtain ⟨x, t, h⟩ := spl_form c r
    have ih := spl_sum c r
    by_cases hb : b = c
    · subst hb; rw [spl_eq]; simp only [List.map_cons, List.sum_cons, List.length_cons, List.length_nil, ih]; omega
    · rw [spl_cons hb h]; rw [h] at ih; simp only [List.map_cons, List.sum_cons, List.length_cons] at ih ⊢; omega
def sumZ (ws : List ByteArray) : Nat := (ws.map (fun x => x.size + 1)).sum
theorem sumZ_cons (x : ByteArray) (ws : List ByteArray) : sumZ (x :: ws) = x.size + 1 + sumZ ws := by unfold sumZ; simp
theorem sumZ_app (a b : List ByteArray) : sumZ (a ++ b) = sumZ a + sumZ b := by unfold sumZ; simp
theorem sumZ_len (ws : List ByteArray) : ws.length ≤ sumZ ws := by
  induction ws with
  | nil => simp [sumZ]
  | cons a l ih => rw [sumZ_cons, List.length_cons]; omega
theorem sumZ_take (ws : List ByteArray) (k : Nat) : sumZ (ws.take k) ≤ sumZ ws := by
  have h := sumZ_app (ws.take k) (ws.drop k)
  rw [List.take_append_drop] at h; omega
theorem sumZ_step {ws : List ByteArray} {k : Nat} {x : ByteArray} (h : ws[k]? = some x) : sumZ (ws.take (k + 1)) = sumZ (ws.take k) + (x.size + 1) := by
  rw [take_succ_of h, sumZ_app, sumZ_cons]; simp [sumZ]
theorem splS_sum (c : UInt8) (s : ByteArray) : sumZ (splS c s) = s.size + 1 := by
  unfold sumZ splS
  rw [List.map_map]
  have h := spl_sum c s.data.toList
  have e : s.data.toList.length = s.size := by rw [Array.length_toList]; rfl
  rw [e] at h
  rw [← h]
  congr 1
/-! ### Text and lines -/
theorem jnB_two (x y sep : ByteArray) (r : List ByteArray) : jnB (x :: y :: r) sep = x ++ sep ++ jnB (y :: r) sep := by
  unfold jnB
  rw [List.map_cons, List.map_cons, join_two]
  apply ByteArray.ext
  simp
theorem app_emp (s : ByteArray) : s ++ bNo = s := by apply ByteArray.ext; simp
theorem tmT_tlS {t : TV} (h : t.2 ≠ []) : tmT t = tlS t ++ bNl := by
  obtain ⟨s, x⟩ := t
  match x, h with
  | p :: x, _ =>
    unfold tlS tlW tmT
    rw [List.map_cons, jnB_two, jnB_two, show ftT (p :: x) = jnB (ftS p :: x.map ftS) ⟨#[32]⟩ from rfl]
    rw [show (⟨#[116, 101, 109, 112, 108, 97, 116, 101, 32]⟩ : ByteArray) = wTempl ++ bSp from rfl]
    simp only [ByteArray.append_assoc]
theorem stP_lin {z : Int} {ts : List TV} (h : ∀ t ∈ ts, t.2 ≠ []) : ∀ k, k ≤ ts.length → stP z ts k = jnB (linS z (ts.take k)) bNl ++ bNl
  | 0, _ => by
    unfold linS l0S l0W
    rw [List.take_zero, List.map_nil, jnB_one, jnB_two, jnB_one, stP]
    rw [show (⟨#[115, 116, 111, 114, 101, 32]⟩ : ByteArray) = wStore ++ bSp from rfl]
  | k + 1, hk => by
    have hkl : k < ts.length := by omega
    have hx : ts[k]? = some ts[k] := List.getElem?_eq_getElem hkl
    rw [show stP z ts (k + 1) = stP z ts k ++ tmT ts[k] from stP_step (s := ts[k].1) (x := ts[k].2) hx, stP_lin h k (by omega), tmT_tlS (h _ (List.getElem_mem hkl))]
    rw [take_succ_of hx]
    unfold linS
    rw [List.map_append, ← List.cons_append, List.map_cons, List.map_nil, jnB_snoc (by simp)]
    simp only [ByteArray.append_assoc]
theorem storeB_ne {z : Int} {ts : List TV} (h : storeB z ts = true) : ∀ t ∈ ts, t.2 ≠ [] := by
  intro t ht
  obtain ⟨k, hk⟩ := List.mem_iff_getElem?.1 ht
  exact featsOk_ne (storeB_at h hk).2
def stT (z : Int) (ts : List TV) : ByteArray := jnB (linS z ts) bNl ++ bNl
theorem stR_lin {z : Int} {ts : List TV} (h : storeB z ts = true) : stR z ts = stT z ts := by
  unfold stR stT
  rw [if_pos h, stP_lin (storeB_ne h) _ (Nat.le_refl _), List.take_length]
/-! ### No blank, no newline where none belongs -/
theorem lab_bytes {s : ByteArray} (h : labS s = true) {c : UInt8} (hc : c ∈ s.data.toList) : c.toNat ≠ 10 ∧ c.toNat ≠ 32 := by
  rcases Nat.lt_or_ge s.size 2 with h1 | h1
  · rcases Nat.lt_or_ge s.size 1 with h2 | h2
    · rw [labS_no (by omega)] at h; cases h
    · obtain ⟨b, rfl⟩ := one_byte (s := s) (by omega)
      have e : c = b := List.mem_singleton.1 hc
      subst e
      rw [labS_one] at h
      constructor <;> (intro e; rw [e] at h; exact absurd h (by decide))
  · rw [labS_no (by omega)] at h; cases h
theorem l0W_not (z : Int) {c : UInt8} (h : c.toNat = 10 ∨ c.toNat = 32) : ∀ s ∈ l0W z, c ∉ s.data.toList := by
  intro s hs
  rcases List.mem_cons.1 hs with rfl | hs
  · intro hc
    rcases h with h | h
    · have e : c = 10 := UInt8.toNat_inj.1 (by rw [h]; rfl)
      subst e; revert hc; decide
    · have e : c = 32 := UInt8.toNat_inj.1 (by rw [h]; rfl)
      subst e; revert hc; decide
  · rw [List.mem_singleton] at hs; subst hs
    exact decS_not (by omega)
theorem tlW_not {t : TV} (hl : labS t.1 = true) {c : UInt8} (h : c.toNat = 10 ∨ c.toNat = 32) : ∀ s ∈ tlW t, c ∉ s.data.toList := by
  intro s hs
  rcases List.mem_cons.1 hs with rfl | hs
  · intro hc
    rcases h with h | h
    · have e : c = 10 := UInt8.toNat_inj.1 (by rw [h]; rfl)
      subst e; revert hc; decide
    · have e : c = 32 := UInt8.toNat_inj.1 (by rw [h]; rfl)
      subst e; revert hc; decide
  · rcases List.mem_cons.1 hs with rfl | hs
    · intro hc
      have := lab_bytes hl hc
      omega
    · obtain ⟨p, _, rfl⟩ := List.mem_map.1 hs
      exact ftS_not (by omega)
theorem splS_l0S (z : Int) : splS 32 (l0S z) = l0W z := splS_jnB (by simp [l0W]) (l0W_not z (.inr rfl))
theorem splS_tlS {t : TV} (hl : labS t.1 = true) : splS 32 (tlS t) = tlW t := splS_jnB (by simp [tlW]) (tlW_not hl (.inr rfl))
theorem jn_bytes (c d : UInt8) : ∀ (ss : List ByteArray), (∀ s ∈ ss, c ∉ s.data.toList) → c ≠ d → c ∉ (jnB ss ⟨#[d]⟩).data.toList
  | [], _, _ => by
    show c ∉ _
    rw [show (jnB [] (⟨#[d]⟩ : ByteArray)).data.toList = [] from rfl]
    simp
  | [a], h, _ => by rw [jnB_one]; exact h a List.mem_cons_self
  | a :: b :: r, h, hd => by
    rw [jnB_two]
    have ih := jn_bytes c d (b :: r) (fun s hs => h s (List.mem_cons_of_mem _ hs)) hd
    have ha := h a List.mem_cons_self
    intro hc
    simp only [ByteArray.data_append, Array.toList_append, List.mem_append] at hc
    rcases hc with (hc | hc) | hc
    · exact ha hc
    · exact hd (List.mem_singleton.1 hc)
    · exact ih hc
theorem linS_not {z : Int} {ts : List TV} (h : storeB z ts = true) : ∀ s ∈ linS z ts, (10 : UInt8) ∉ s.data.toList := by
  intro s hs
  unfold linS at hs
  rcases List.mem_cons.1 hs with rfl | hs
  · exact jn_bytes 10 32 _ (l0W_not z (.inl rfl)) (by decide)
  · obtain ⟨t, ht, rfl⟩ := List.mem_map.1 hs
    obtain ⟨k, hk⟩ := List.mem_iff_getElem?.1 ht
    exact jn_bytes 10 32 _ (tlW_not (storeB_at h hk).1 (.inl rfl)) (by decide)
/-! ### The store with a text -/
def isST (s : ByteArray) (z : Int) (ts : List TV) : Prop := storeB z ts = true ∧ stT z ts = s
theorem isST_split {s : ByteArray} {z : Int} {ts : List TV} (h : isST s z ts) : splS 10 s = linS z ts ++ [bNo] := by
  rw [← h.2]
  unfold stT
  have e : jnB (linS z ts) bNl ++ bNl = jnB (linS z ts ++ [bNo]) bNl := by rw [jnB_snoc (by simp [linS]), app_emp]
  rw [e]
  refine splS_jnB (by simp [linS]) ?_
  intro x hx
  rcases List.mem_append.1 hx with h1 | h1
  · exact linS_not h.1 x h1
  · rw [List.mem_singleton] at h1; subst h1; exact List.not_mem_nil
theorem back_text {s : ByteArray} {ls : List ByteArray} (h : splS 10 s = ls ++ [bNo]) (h0 : ls ≠ []) : s = jnB ls bNl ++ bNl := by
  have h1 := jnB_splS 10 s
  rw [h, jnB_snoc h0, app_emp] at h1
  exact h1.symm
theorem size_nl (s : ByteArray) : (s ++ bNl).size = s.size + 1 := by rw [ByteArray.size_append]; rfl
/-- The program's lines. -/
theorem isST_suffix {s : ByteArray} {z : Int} {ts : List TV} (h : isST s z ts) : Lib.hasSuffix s.data.toList [10] = true ∧ splS 10 ⟨(Lib.trimSuffix s.data.toList [10]).toArray⟩ = linS z ts := by
  have e : s.data.toList = (jnB (linS z ts) bNl).data.toList ++ [10] := by
    rw [← h.2]; unfold stT
    simp [ByteArray.data_append]
  have hs : Lib.hasSuffix s.data.toList [10] = true := by
    unfold Lib.hasSuffix
    rw [e, List.isSuffixOf_iff_suffix]
    exact List.suffix_append _ _
  refine ⟨hs, ?_⟩
  unfold Lib.trimSuffix
  rw [if_pos hs, e]
  simp only [List.length_append, List.length_cons, List.length_nil, Nat.zero_add, Nat.add_sub_cancel]
  rw [List.take_append_of_le_length (Nat.le_refl _), List.take_length, toB_toList]
  exact splS_jnB (by simp [linS]) (linS_not h.1)
/-! ### What the program reads of lines -/
def featsI (ws : List ByteArray) : List T3 := if (ws.all fun x => (wordI x).isSome) = true then ws.map fun x => (wordI x).getD (0, 0, 0) else []
theorem featsI_yes {ws : List ByteArray} {L : List T3} (h : ws.map wordI = L.map some) : featsI ws = L := by
  have h1 : (ws.all fun x => (wordI x).isSome) = true := by
    rw [List.all_eq_true]
    intro x hx
    have h2 : wordI x ∈ L.map some := by rw [← h]; exact List.mem_map.2 ⟨x, hx, rfl⟩
    obtain ⟨y, _, hy⟩ := List.mem_map.1 h2
    rw [← hy]; rfl
  unfold featsI
  rw [if_pos h1]
  have h3 : (ws.map wordI).map (fun o => o.getD (0, 0, 0)) = (L.map some).map (fun o => o.getD (0, 0, 0)) := by rw [h]
  rw [List.map_map, List.map_map] at h3
  exact h3.trans (List.map_id _)
theorem featsI_no {ws : List ByteArray} {x : ByteArray} (hx : x ∈ ws) (h : wordI x = none) : featsI ws = [] := by
  unfold featsI
  rw [if_neg]
  intro h1
  have := List.all_eq_true.1 h1 x hx
  rw [h] at this
  cases this
theorem featsI_len (ws : List ByteArray) : (featsI ws).length ≤ ws.length := by
  unfold featsI
  split
  · rw [List.length_map]; exact Nat.le_refl _
  · simp
/-- A line: 'none': neither form. -/
def lineI (st : Int × List TV) (ln : ByteArray) : Option (Int × List TV) :=
  match splS 32 ln with
  | [a, b] => if a = wStore then some ((rdD b).getD 0, st.2) else none
  | a :: b :: c :: r => if a = wTempl then some (st.1, st.2 ++ [(b, featsI (c :: r))]) else none
  | _ => none
theorem lineI_store {st : Int × List TV} {ln a b : ByteArray} (h : splS 32 ln = [a, b]) (ha : a = wStore) : lineI st ln = some ((rdD b).getD 0, st.2) := by
  unfold lineI; rw [h]; simp only; rw [if_pos ha]
theorem lineI_templ {st : Int × List TV} {ln a b c : ByteArray} {r : List ByteArray} (h : splS 32 ln = a :: b :: c :: r) (ha : a = wTempl) : lineI st ln = some (st.1, st.2 ++ [(b, featsI (c :: r))]) := by
  unfold lineI; rw [h]; simp only; rw [if_pos ha]
theorem lineI_one {st : Int × List TV} {ln a : ByteArray} (h : splS 32 ln = [a]) : lineI st ln = none := by unfold lineI; rw [h]
theorem lineI_two {st : Int × List TV} {ln a b : ByteArray} (h : splS 32 ln = [a, b]) (ha : ¬ a = wStore) : lineI st ln = none := by unfold lineI; rw [h]; simp only; rw [if_neg ha]
theorem lineI_more {st : Int × List TV} {ln a b c : ByteArray} {r : List ByteArray} (h : splS 32 ln = a :: b :: c :: r) (ha : ¬ a = wTempl) : lineI st ln = none := by unfold lineI; rw [h]; simp only; rw [if_neg ha]
def foldI : List ByteArray → Int × List TV → Option (Int × List TV)
  | [], st => some st
  | l :: r, st => match lineI st l with
    | some st' => foldI r st'
    | none => none
theorem foldI_step {ls : List ByteArray} {k : Nat} {l : ByteArray} {st st0 st' : Int × List TV} (hx : ls[k]? = some l) (h : foldI (ls.take k) st0 = some st) (hl : lineI st l = some st') : foldI (ls.take (k + 1)) st0 = some st' := by
  rw [take_succ_of hx]
  have key : ∀ (a : List ByteArray) (s0 : Int × List TV), foldI a s0 = some st → foldI (a ++ [l]) s0 = some st' := by
    intro a
    induction a with
    | nil => intro s0 h0; cases h0; simp only [List.nil_append, foldI, hl]
    | cons b a ih =>
      intro s0 h0
      simp only [foldI, List.cons_append] at h0 ⊢
      cases hb : lineI s0 b with
      | none => rw [hb] at h0; cases h0
      | some s1 => rw [hb] at h0; exact ih s1 h0
  exact key _ _ h
theorem foldI_fail {ls : List ByteArray} {k : Nat} {l : ByteArray} {st st0 : Int × List TV} (hx : ls[k]? = some l) (h : foldI (ls.take k) st0 = some st) (hl : lineI st l = none) : foldI ls st0 = none := by
  have e : ls = ls.take k ++ l :: ls.drop (k + 1) := by
    have h1 := List.take_append_drop k ls
    rw [drop_of hx] at h1
    exact h1.symm
  rw [e]
  have key : ∀ (a : List ByteArray) (s0 : Int × List TV), foldI a s0 = some st → foldI (a ++ l :: ls.drop (k + 1)) s0 = none := by
    intro a
    induction a with
    | nil => intro s0 h0; cases h0; simp only [List.nil_append, foldI, hl]
    | cons b a ih =>
      intro s0 h0
      simp only [foldI, List.cons_append] at h0 ⊢
      cases hb : lineI s0 b with
      | none => rfl
      | some s1 => rw [hb] at h0; exact ih s1 h0
  exact key _ _ h
theorem small_band {z : Int} {ts : List TV} (h : storeB z ts = true) : rdD (decS z) = some z := rdD_dec (smallI_dig ⟨by have := storeB_band h; omega, by have := storeB_band h; omega⟩)
theorem tlW_feats {t : TV} (h : featsOk 72 t.2 = true) : (t.2.map ftS).map wordI = t.2.map some := words_map (fun x hx => wordI_ftS (featsOk_small h x hx))
theorem tlW_featsS {t : TV} (h : featsOk 72 t.2 = true) : (t.2.map ftS).map wordS = t.2.map some := words_map (fun x hx => wordS_ftS (featsOk_small h x hx))
theorem foldI_templs (z : Int) : ∀ (ts acc : List TV), (∀ t ∈ ts, labS t.1 = true ∧ featsOk 72 t.2 = true) → foldI (ts.map tlS) (z, acc) = some (z, acc ++ ts)
  | [], acc, _ => by simp [foldI]
  | t :: ts, acc, h => by
    obtain ⟨h1, h2⟩ := h t List.mem_cons_self
    have hw := splS_tlS h1
    unfold tlW at hw
    have hne := featsOk_ne h2
    have hf := tlW_feats h2
    have hl : lineI (z, acc) (tlS t) = some (z, acc ++ [t]) := by
      obtain ⟨s, x⟩ := t
      match x, hne with
      | p :: x, _ =>
        rw [List.map_cons] at hw
        rw [lineI_templ hw rfl]
        have hf2 : featsI (ftS p :: List.map ftS x) = p :: x := featsI_yes hf
        rw [hf2]
    rw [List.map_cons, foldI, hl]
    simp only
    rw [foldI_templs z ts (acc ++ [t]) (fun u hu => h u (List.mem_cons_of_mem _ hu)), List.append_assoc, List.singleton_append]
theorem storeB_all {z : Int} {ts : List TV} (h : storeB z ts = true) : ∀ t ∈ ts, labS t.1 = true ∧ featsOk 72 t.2 = true := by
  intro t ht
  obtain ⟨k, hk⟩ := List.mem_iff_getElem?.1 ht
  exact storeB_at h hk
theorem foldI_lin {z : Int} {ts : List TV} (h : storeB z ts = true) : foldI (linS z ts) (0, []) = some (z, ts) := by
  unfold linS
  rw [foldI, lineI_store (a := wStore) (b := decS z) (splS_l0S z) rfl]
  simp only
  rw [small_band h, Option.getD_some, foldI_templs z ts [] (storeB_all h), List.nil_append]
open Classical in
noncomputable def rsO (s : ByteArray) : Option (Int × List TV) := if h : ∃ p : Int × List TV, isST s p.1 p.2 then some (Classical.choose h) else none
theorem rsO_some {s : ByteArray} {z : Int} {ts : List TV} (h : rsO s = some (z, ts)) : isST s z ts := by
  unfold rsO at h
  split at h
  · rename_i h2
    have h3 := Classical.choose_spec h2
    rw [Option.some.inj h] at h3
    exact h3
  · cases h
theorem rsO_none {s : ByteArray} (h : ∀ z ts, ¬ isST s z ts) : rsO s = none := by
  cases hr : rsO s with
  | none => rfl
  | some p => exact absurd (rsO_some hr) (h p.1 p.2)
theorem rsO_of {s : ByteArray} {z : Int} {ts : List TV} (h : isST s z ts) : rsO s = some (z, ts) := by
  cases hr : rsO s with
  | none =>
    unfold rsO at hr
    split at hr
    · cases hr
    · rename_i h2; exact absurd ⟨(z, ts), h⟩ h2
  | some p =>
    have h2 := rsO_some (s := s) (z := p.1) (ts := p.2) hr
    have h3 := foldI_lin h2.1
    rw [← (isST_suffix h2).2, (isST_suffix h).2, foldI_lin h.1] at h3
    have h4 := Option.some.inj h3
    rw [h4]
noncomputable def rsZ (s : ByteArray) : Int := match rsO s with | some p => p.1 | none => 0
noncomputable def rsL (s : ByteArray) : List TV := match rsO s with | some p => p.2 | none => []
noncomputable def rsB (s : ByteArray) : Bool := (rsO s).isSome
theorem rs_no {s : ByteArray} (h : rsO s = none) : rsZ s = 0 ∧ rsL s = [] ∧ rsB s = false := by unfold rsZ rsL rsB; rw [h]; exact ⟨rfl, rfl, rfl⟩
theorem rs_yes {s : ByteArray} {z : Int} {ts : List TV} (h : rsO s = some (z, ts)) : rsZ s = z ∧ rsL s = ts ∧ rsB s = true := by unfold rsZ rsL rsB; rw [h]; exact ⟨rfl, rfl, rfl⟩
/-- The program's lines of a text. -/
def linesI (s : ByteArray) : Option (List ByteArray) :=
  if s.size = 0 then some [] else if Lib.hasSuffix s.data.toList [10] = true then some (splS 10 ⟨(Lib.trimSuffix s.data.toList [10]).toArray⟩) else none
theorem isST_lines {s : ByteArray} {z : Int} {ts : List TV} (h : isST s z ts) : linesI s = some (linS z ts) := by
  have h1 := isST_suffix h
  have h2 : s.size ≠ 0 := by rw [← h.2]; unfold stT; rw [size_nl]; omega
  unfold linesI
  rw [if_neg h2, if_pos h1.1, h1.2]
theorem rsO_nolines {s : ByteArray} (h : linesI s = none) : rsO s = none := rsO_none (fun z ts h2 => by rw [isST_lines h2] at h; cases h)
theorem rsO_nofold {s : ByteArray} {ls : List ByteArray} (h : linesI s = some ls) (hf : foldI ls (0, []) = none) : rsO s = none := rsO_none (fun z ts h2 => by
  rw [isST_lines h2] at h; cases h
  rw [foldI_lin h2.1] at hf; cases hf)
theorem rsO_other {s : ByteArray} {ls : List ByteArray} {z : Int} {ts : List TV} (h : linesI s = some ls) (hf : foldI ls (0, []) = some (z, ts)) (hn : ¬ isST s z ts) : rsO s = none := rsO_none (fun z' ts' h2 => by
  have h3 := h
  rw [isST_lines h2] at h3; cases h3
  rw [foldI_lin h2.1] at hf
  cases hf; exact hn h2)
theorem trim_size {s : ByteArray} : (⟨(Lib.trimSuffix s.data.toList [10]).toArray⟩ : ByteArray).size ≤ s.size := by
  show (List.toArray _).size ≤ _
  rw [List.size_toArray]
  unfold Lib.trimSuffix
  have e : s.data.toList.length = s.size := by rw [Array.length_toList]; rfl
  split
  · rw [List.length_take]; omega
  · omega
theorem linesI_sum {s : ByteArray} {ls : List ByteArray} (h : linesI s = some ls) : sumZ ls ≤ s.size ∧ ∀ x ∈ ls, x.size ≤ s.size := by
  unfold linesI at h
  split at h
  · cases h; exact ⟨by simp [sumZ], fun x hx => by cases hx⟩
  · split at h
    · rename_i h1 h2
      cases h
      constructor
      · rw [splS_sum]
        show (List.toArray _).size + 1 ≤ _
        rw [List.size_toArray]
        unfold Lib.trimSuffix
        have e : s.data.toList.length = s.size := by rw [Array.length_toList]; rfl
        rw [if_pos h2, List.length_take]
        simp only [List.length_cons, List.length_nil]
        omega
      · intro x hx
        have := splS_size hx
        have := trim_size (s := s)
        omega
    · cases h
theorem szT_line {ln a b c : ByteArray} {r : List ByteArray} {L : List T3} (h : splS 32 ln = a :: b :: c :: r) (hL : L.length ≤ (c :: r).length) : szT (b, L) + 1 ≤ ln.size + 1 := by
  have h1 := splS_sum 32 ln
  rw [h, sumZ_cons, sumZ_cons] at h1
  have h2 := sumZ_len (c :: r)
  unfold szT
  simp only
  omega
theorem totT_snoc (ts : List TV) (t : TV) : totT (ts ++ [t]) = totT ts + (szT t + 1) := by
  unfold totT; simp; omega
theorem totT_cons (t : TV) (ts : List TV) : totT (t :: ts) = totT ts + (szT t + 1) := by unfold totT; simp; omega
theorem totT_tlS : ∀ ts : List TV, (∀ t ∈ ts, labS t.1 = true ∧ featsOk 72 t.2 = true) → totT ts ≤ sumZ (ts.map tlS)
  | [], _ => by simp [totT]
  | t :: ts, h => by
    obtain ⟨h1, h2⟩ := h t List.mem_cons_self
    have hw := splS_tlS h1
    unfold tlW at hw
    have hne := featsOk_ne h2
    have ih := totT_tlS ts (fun u hu => h u (List.mem_cons_of_mem _ hu))
    rw [List.map_cons, sumZ_cons, totT_cons]
    obtain ⟨sl, x⟩ := t
    match x, hne with
    | q :: x, _ =>
      rw [List.map_cons] at hw
      have h5 := szT_line (L := q :: x) hw (by simp)
      simp only at h5
      omega
theorem rsL_tot {s : ByteArray} (hs : s.size ≤ 1048576) : totT (rsL s) ≤ 1048576 := by
  unfold rsL
  cases hr : rsO s with
  | none => simp [totT]
  | some p =>
    have h := rsO_some (s := s) (z := p.1) (ts := p.2) hr
    have h1 := (linesI_sum (isST_lines h)).1
    unfold linS at h1
    rw [sumZ_cons] at h1
    have h2 := totT_tlS p.2 (storeB_all h.1)
    simp only; omega
end Go.Proofs.YtnjifhlabbejoaaGreatDoor
