/- The texts that the laws write as marks. -/
import Derived.Test.YtnjifhlabbejoaaGreatDoorPk
import Derived.Test.YtnjifhlabbejoaaGreatDoorSc
import Derived.IntWalk
import Derived.Outline
import Derived.Laws.IdiomStrings
namespace Go.Proofs.YtnjifhlabbejoaaGreatDoor
open Go.ChangeShapes Go.WideShapes Go.ChangeAt Go.RowKit
set_option linter.unusedVariables false
set_option linter.unusedSimpArgs false
/-- The digits of a number, ahead of some bytes. -/
def mtl (k : Nat) (acc : ByteArray) : ByteArray := if h : k = 0 then acc else mtl (k / 10) (⟨#[48 + UInt8.ofNat (k % 10)]⟩ ++ acc)
termination_by k
decreasing_by omega
theorem mtl_zero (acc : ByteArray) : mtl 0 acc = acc := by unfold mtl; simp
theorem mtl_pos {k : Nat} (h : 0 < k) (acc : ByteArray) : mtl k acc = mtl (k / 10) (⟨#[48 + UInt8.ofNat (k % 10)]⟩ ++ acc) := by
  rw [mtl, dif_neg (by omega)]
def mtx (k : Nat) : ByteArray := ⟨#[109]⟩ ++ mtl k ⟨#[]⟩
theorem conv_digit {P : Program} {src dst e : TypeId} (hs : P.underlying src = some (.slice e)) (he : P.underlying e = some (.int .u8)) (hd : P.underlying dst = some .string) (w : World) (k : Nat) :
    (convert src dst (.slice (some ⟨w.heap.size, 0, none⟩) 1 1)).run P (w.alloc (.cells #[.int .u8 (48 + (k : Int) % 10)] e)) = .ok (.string ⟨#[48 + UInt8.ofNat (k % 10)]⟩) (w.alloc (.cells #[.int .u8 (48 + (k : Int) % 10)] e)) := by
  have h8 : 48 + UInt8.ofNat (k % 10) = UInt8.ofNat (48 + k % 10) := by simp
  have h9 : (48 + UInt8.ofNat (k % 10)).toNat = 48 + k % 10 := by rw [h8, UInt8.toNat_ofNat']; omega
  refine run_convert_bytes_back _ src dst e ⟨w.heap.size, 0, none⟩ 1 [48 + UInt8.ofNat (k % 10)] hs he hd (fun j hj => ?_)
  obtain rfl : j = 0 := by simpa using hj
  rw [List.getElem_cons_zero, h9]
  simp [Addr.add]
set_option maxHeartbeats 1000000 in
set_option maxRecDepth 100000 in
theorem markText_any (k0 : Nat) (w : World) (h0 : 0 < k0) (h1 : k0 ≤ 1099511627776) : Calls Tryz.prog 39 #[.int .i64 k0] w fun e w' => e = .returned (.string (mtx k0)) ∧ Below w.heap.size w w' := by
  have d0 : ¬ (k0 : Int) ≤ 0 := by omega
  go_enter Tryz.func39, Tryz.ntmps39
  go_wp2_with fail
  go_loopw [0, 3] (fun kv ov wr => ∃ (k : Nat) (s : ByteArray), k ≤ k0 ∧ s.size + k ≤ k0 ∧ kv = .int .i64 k ∧ ov = .string s ∧ Hid (mtl k0 ⟨#[]⟩ = mtl k s) ∧ Below w.heap.size w wr) (fun kv _ _ => (intOf kv).toNat)
  case atStart => exact ⟨k0, ⟨#[]⟩, Nat.le_refl _, by simp [ByteArray.size], rfl, rfl, rfl, Below.refl _ _⟩
  case round =>
    obtain ⟨k, s, hk, hsk, rfl, rfl, hm, hb⟩ := hrel
    by_cases hp : 0 < k
    · have HM : Hid (mtl k0 ⟨#[]⟩ = mtl (k / 10) (⟨#[48 + UInt8.ofNat (k % 10)]⟩ ++ s)) := hm.out.trans (mtl_pos hp s)
      have hlen : (⟨#[48 + UInt8.ofNat (k % 10)]⟩ ++ s : ByteArray).size + k / 10 ≤ k0 := by
        have h7 : (⟨#[48 + UInt8.ofNat (k % 10)]⟩ : ByteArray).size = 1 := rfl
        rw [ByteArray.size_append, h7]; omega
      have kc := conv_digit (P := Tryz.prog) Tryz.underlying65 Tryz.underlying5 Tryz.underlying9 wr k
      go_wp2
      exact ⟨⟨k / 10, _, by omega, hlen, by go_num, rfl, HM, hb.alloc hb.size _⟩, by simp [intOf]; omega⟩
    · obtain rfl : k = 0 := by omega
      have F : Hid (mtx k0 = ⟨#[109]⟩ ++ s) := by unfold Hid mtx; rw [hm.out, mtl_zero]
      go_wp2
      go_ret
      exact ⟨congrArg (fun x => Ending.returned (.string x)) F.out.symm, hb⟩
end Go.Proofs.YtnjifhlabbejoaaGreatDoor
