/- Contracts of SmoothStroke: copies of strokes. -/
import Derived.Test.YtpmaiklooapnfaaSk
import Derived.Test.YtpmaiklooapnfaaPk
import Derived.Test.YtpmaiklooapnfaaNd
import Derived.WalkSpells
namespace Go.Proofs.Ytpmaiklooapnfaa
open Go.ChangeShapes Go.WideShapes Go.ChangeAt Go.RowKit
/-- A row of the call's own is left alone by a store into another block. -/
theorem own_far {w : World} {base : Nat} {e : TypeId} {s n : Nat} {v : Value} {xs : List Value} (h : w.ownsRow base e s v n xs) {p : Addr} (hp : ∀ q, v.ownBlock = some q → q ≠ p.block) (u : Value) : (w.setCell p u).ownsRow base e s v n xs := by
  obtain ⟨h1, h2⟩ := h
  refine ⟨h1, ?_⟩
  rcases h2 with h2 | ⟨g, cap, cur, hv, hg, hh, r⟩
  · exact .inl h2
  · exact .inr ⟨g, cap, cur, hv, hg, (Below.heap_setCell w p u g (hp g (by rw [hv]; rfl))).trans hh, r⟩
set_option maxHeartbeats 1000000 in
theorem clonePoint_any (A : Option Addr) (n c : Nat) (xs : List T3) (w : World) (hr : RdL c3 3 w w.heap.size A n c xs) (hpos : 0 < n) (hn : n ≤ 1048576) :
    Calls Try.prog 59 #[.slice A n c] w fun e w' => ∃ A' c', e = .returned (.slice A' n c') ∧ w'.ownsRow w.heap.size 77 3 (.slice A' n c') n (xs.flatMap c3) ∧ Below w.heap.size w w' := by
  obtain ⟨i0, hi, hz0, hz1, hz2⟩ := info_parts Try.infoPoint
  obtain ⟨b, off, _, rfl, _⟩ := RdL.at_ (f := c3) c3_len hr hpos
  have HR := Lib.hid hr
  clear hr
  have hq : ∀ w : World, (binOp .eql 26 (.slice (some ⟨b, off, none⟩) n c) (.slice none 0 0)).run Try.prog w = .ok (.bool false) w := fun w => Lib.run_eql_slice_nil w _ _ _ _ _ 0 0 Try.underlying26
  go_enter Try.func59, Try.ntmps59
  go_wp2_with (at_builtin; with_reducible refine app_all _ c3_len one3 rfl (.tmp 5) (.tmp 6) 26 rfl w.heap.size 77 i0 _ Try.underlying26 hi hz0 hz1 hz2 rfl (by decide) (by decide) _ _ rfl ?_ (some ⟨b, off, none⟩) n c w.heap.size xs rfl ?_ hpos hn ?_ ?_)
  · simpa using World.ownsRow_lit (base := w.heap.size) (e := 77) (size := 3) w #[] 0 (Nat.le_refl _) (by simp [maxLen]) rfl
  · exact HR.out.alloc (Nat.le_refl _) _
  · simp
  · intro A' c' w' ho hb
    go_wp2
    go_ret
    exact ⟨A', c', rfl, ho, ((Below.refl _ _).alloc (Nat.le_refl _) _).trans hb⟩
set_option maxHeartbeats 1000000 in
theorem l02OwnStroke_any (g0 : Nat) (T : TypeId) (A : Option Addr) (n c : Nat) (xs : List T3) (w : World) (K0 : Blk w g0 T #[.slice A n c]) (hr : RdL c3 3 w w.heap.size A n c xs) (hpos : 0 < n) (hn : n ≤ 1048576) :
    Calls Try.prog 55 #[.pointer (some ⟨g0, 0, none⟩)] w fun e w' => ∃ A' c', e = .returned (.agg #[.slice A' n c']) ∧ w'.ownsRow w.heap.size 77 3 (.slice A' n c') n (xs.flatMap c3) ∧ Below w.heap.size w w' := by
  obtain ⟨i0, hi, hz0, hz1, hz2⟩ := info_parts Try.infoPoint
  have HR := Lib.hid hr
  clear hr
  have zk := K0.lt
  have e0 := K0.cell 0
  simp only [List.getElem?_toArray, List.getElem?_cons_zero] at e0
  go_enter Try.func55, Try.ntmps55
  go_wp2_with (at_builtin; with_reducible refine app_all _ c3_len one3 rfl (.tmp 3) (.tmp 7) 26 rfl (w.heap.size + 1) 77 i0 _ Try.underlying26 hi hz0 hz1 hz2 rfl (by decide) (by decide) _ _ rfl ?_ A n c w.heap.size xs rfl ?_ hpos hn ?_ ?_)
  · have h := World.ownsRow_lit (base := w.heap.size + 1) (e := 77) (size := 3) (w.alloc (.cells #[.slice none 0 0] 28)) #[] 0 (by simp) (by simp [maxLen]) rfl
    simpa using h
  · exact (HR.out.alloc (Nat.le_refl _) _).alloc (by simp) _
  · simp
  · intro A' c' w' ho hb
    have hB : Below w.heap.size w w' := (((Below.refl _ _).alloc (Nat.le_refl _) _).alloc (by simp) _).trans (hb.mono (by omega))
    have J0 : Blk w' w.heap.size 28 #[.slice none 0 0] := (hb.block w.heap.size (by omega)).trans ((Blk.new w 28 #[.slice none 0 0]).alloc (.cells #[] 77))
    have j0 := J0.cell 0
    simp only [List.getElem?_toArray, List.getElem?_cons_zero] at j0
    have f0 := J0.frozen 0
    go_wp2
    refine bodyPost_ret (v := .agg #[.slice A' n c']) (by simp [results, Try.results55, go_sem, j0]) rfl ⟨A', c', rfl, ?_, (by repeat (first | exact Below.refl _ _ | assumption | refine Below.drew ?_ | refine below_drewN ?_ _ | refine Below.alloc ?_ (by first | omega | (simp <;> omega)) _ | refine Below.setCell ?_ (by first | omega | (simp <;> omega)) _))⟩
    exact own_mono (own_far ho (fun q hq => by have := (ho.lt q hq).1; simp only; omega) _) (by omega)
end Go.Proofs.Ytpmaiklooapnfaa
