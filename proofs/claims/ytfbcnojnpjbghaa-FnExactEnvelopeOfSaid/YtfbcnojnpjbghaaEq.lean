/- Contracts of the measure and the comparison of envelopes. -/
import Derived.Test.YtfbcnojnpjbghaaEv
namespace Go.Proofs.Ytfbcnojnpjbghaa
open Go.ChangeShapes Go.WideShapes Go.ChangeAt Go.RowKit
set_option maxHeartbeats 1000000 in
theorem eqEnv_yes (A B C D : Option Addr) (na ca nb cb nc cc nd cd : Nat) (A' B' C' D' : Option Addr) (na' ca' nb' cb' nc' cc' nd' cd' : Nat) (la lb lc ld : List Int) (w : World) (ra : RdL c1 1 w w.heap.size A na ca la) (rb : RdL c1 1 w w.heap.size B nb cb lb) (rc : RdL c1 1 w w.heap.size C nc cc lc) (rd : RdL c1 1 w w.heap.size D nd cd ld) (ra' : RdL c1 1 w w.heap.size A' na' ca' la) (rb' : RdL c1 1 w w.heap.size B' nb' cb' lb) (rc' : RdL c1 1 w w.heap.size C' nc' cc' lc) (rd' : RdL c1 1 w w.heap.size D' nd' cd' ld) (ha : na ≤ 1048576) (hb : nb ≤ 1048576) (hc : nc ≤ 1048576) (hd : nd ≤ 1048576) :
    Calls Try.prog 19 #[.agg #[.slice A na ca, .slice B nb cb, .slice C nc cc, .slice D nd cd], .agg #[.slice A' na' ca', .slice B' nb' cb', .slice C' nc' cc', .slice D' nd' cd']] w fun e w' => e = .returned (.bool true) ∧ Below w.heap.size w w' := by
  have K0 : Blk ((w.alloc (.cells #[.slice A na ca, .slice B nb cb, .slice C nc cc, .slice D nd cd] 35)).alloc (.cells #[.slice A' na' ca', .slice B' nb' cb', .slice C' nc' cc', .slice D' nd' cd'] 35)) w.heap.size 35 #[.slice A na ca, .slice B nb cb, .slice C nc cc, .slice D nd cd] := (Blk.new _ _ _).alloc _
  have J0 : Blk ((w.alloc (.cells #[.slice A na ca, .slice B nb cb, .slice C nc cc, .slice D nd cd] 35)).alloc (.cells #[.slice A' na' ca', .slice B' nb' cb', .slice C' nc' cc', .slice D' nd' cd'] 35)) (w.heap.size + 1) 35 #[.slice A' na' ca', .slice B' nb' cb', .slice C' nc' cc', .slice D' nd' cd'] := by have := Blk.new (w.alloc (.cells #[.slice A na ca, .slice B nb cb, .slice C nc cc, .slice D nd cd] 35)) 35 #[.slice A' na' ca', .slice B' nb' cb', .slice C' nc' cc', .slice D' nd' cd']; simpa using this
  have B0 : Below w.heap.size w ((w.alloc (.cells #[.slice A na ca, .slice B nb cb, .slice C nc cc, .slice D nd cd] 35)).alloc (.cells #[.slice A' na' ca', .slice B' nb' cb', .slice C' nc' cc', .slice D' nd' cd'] 35)) := (by repeat (first | exact Below.refl _ _ | assumption | refine Below.drew ?_ | refine below_drewN ?_ _ | refine Below.alloc ?_ (by first | omega | (simp <;> omega)) _ | refine Below.setCell ?_ (by first | omega | (simp <;> omega)) _))
  go_enter Try.func19, Try.ntmps19
  go_wp2_with fail
  generalize hW : ((w.alloc (.cells #[.slice A na ca, .slice B nb cb, .slice C nc cc, .slice D nd cd] 35)).alloc (.cells #[.slice A' na' ca', .slice B' nb' cb', .slice C' nc' cc', .slice D' nd' cd'] 35)) = v0 at *
  clear hW
  with_reducible refine (eqInt64S_yes _ _ _ _ _ _ la _ (ra.on B0) (ra'.on B0) ha).mono ?_
  rintro e w1 ⟨rfl, hb1⟩
  replace B0 := below_on hb1 B0
  replace K0 := K0.on hb1
  replace J0 := J0.on hb1
  have x1 := K0.cell 1
  have y1 := J0.cell 1
  simp only [List.getElem?_toArray, List.getElem?_cons_succ, List.getElem?_cons_zero] at x1 y1
  go_wp2_with fail
  try go_quiet (fail)
  try go_wp2_with fail
  clear x1 y1
  with_reducible refine (eqInt64S_yes _ _ _ _ _ _ lb _ (rb.on B0) (rb'.on B0) hb).mono ?_
  rintro e w2 ⟨rfl, hb2⟩
  replace B0 := below_on hb2 B0
  replace K0 := K0.on hb2
  replace J0 := J0.on hb2
  have x2 := K0.cell 2
  have y2 := J0.cell 2
  simp only [List.getElem?_toArray, List.getElem?_cons_succ, List.getElem?_cons_zero] at x2 y2
  go_wp2_with fail
  try go_quiet (fail)
  try go_wp2_with fail
  clear x2 y2
  with_reducible refine (eqInt64S_yes _ _ _ _ _ _ lc _ (rc.on B0) (rc'.on B0) hc).mono ?_
  rintro e w3 ⟨rfl, hb3⟩
  replace B0 := below_on hb3 B0
  replace K0 := K0.on hb3
  replace J0 := J0.on hb3
  have x3 := K0.cell 3
  have y3 := J0.cell 3
  simp only [List.getElem?_toArray, List.getElem?_cons_succ, List.getElem?_cons_zero] at x3 y3
  go_wp2_with fail
  try go_quiet (fail)
  try go_wp2_with fail
  clear x3 y3
  with_reducible refine (eqInt64S_yes _ _ _ _ _ _ ld _ (rd.on B0) (rd'.on B0) hd).mono ?_
  rintro e w4 ⟨rfl, hb4⟩
  replace B0 := below_on hb4 B0
  replace K0 := K0.on hb4
  replace J0 := J0.on hb4
  go_wp2
  go_ret
  exact ⟨rfl, B0⟩
end Go.Proofs.Ytfbcnojnpjbghaa
