/- The texts that the laws write as marks. -/
import Derived.Test.YtnjifhlabbejoaaDoorPk
import Derived.Test.YtnjifhlabbejoaaDoorSc
import Derived.IntWalk
import Derived.Outline
import Derived.Laws.IdiomStrings
namespace Go.Proofs.YtnjifhlabbejoaaDoor
open Go.ChangeShapes Go.WideShapes Go.ChangeAt Go.RowKit
set_option linter.unusedVariables false
set_option linter.unusedSimpArgs false
/-- The digits of a number, ahead of some bytes. -/
def mtl (k : Nat) (acc : ByteArray) : ByteArray := if h : k = 0 then acc else mtl (k / 10) (⟨#[48 + UInt8.ofNat (k % 10)]⟩ ++ acc)
termination_by k
decreasing_by omega
theorem mtl_zero (acc : ByteArray) : mtl 0 acc = acc := by unfold mtl; simp
theorem mtl_pos {k : Nat} (h : 0 < k) (acc : ByteArray) : mtl k acc = mtl (k / 10) (⟨#[48 + UInt8.ofNat (k % 10)]⟩ ++ acc) := by
  rw [mtl, dif_neg (by omega)]
def mtx (k : Nat) : ByteArray := ⟨#[109]⟩ ++ mtl k ⟨#[]⟩
theorem conv_digit {P : Program} {src dst e : TypeId} (hs : P.underlying src = some (.slice e)) (he : P.underlying e = some (.int .u8)) (hd : P.underlying dst = some .string) (w : World) (k : Nat) :
    (convert src dst (.slice (some ⟨w.heap.size, 0, none⟩) 1 1)).run P (w.alloc (.cells #[.int .u8 (48 + (k : Int) % 10)] e)) = .ok (.string ⟨#[48 + UInt8.ofNat (k % 10)]⟩) (w.alloc (.cells #[.int .u8 (48 + (k : Int) % 10)] e)) := by
  have h8 : 48 + UInt8.ofNat (k % 10) = UInt8.ofNat (48 + k % 10) := by simp
  have h9 : (48 + UInt8.ofNat (k % 10)).toNat = 48 + k % 10 := by rw [h8, UInt8.toNat_ofNat']; omega
  refine run_convert_bytes_back _ src dst e ⟨w.heap.size, 0, none⟩ 1 [48 + UInt8.ofNat (k % 10)] hs he hd (fun j hj => ?_)
  obtain rfl : j = 0 := by simpa using hj
  rw [List.getElem_cons_zero, h9]
  simp [Addr.add]
end Go.Proofs.YtnjifhlabbejoaaDoor
