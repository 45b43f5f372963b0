/- FeatsText: the reference's. -/
import Derived.Test.YtnjifhlabbejoaaGreatDoorFt
namespace Go.Proofs.YtnjifhlabbejoaaGreatDoor
open Go.ChangeShapes Go.WideShapes Go.ChangeAt Go.RowKit
set_option linter.unusedVariables false
set_option linter.unusedSimpArgs false
theorem ftT_size {xs : List T3} (h : ∀ x ∈ xs, ok3 x) : (ftT xs).size ≤ xs.length * 67 := by
  have h1 := jnB_sz (L := 66) (ss := xs.map ftS) (sep := ⟨#[32]⟩) (fun s hs => by
    obtain ⟨y, hy, rfl⟩ := List.mem_map.1 hs
    exact ftS_size (h y hy))
  rw [List.length_map] at h1
  exact h1
theorem empty_app (s : ByteArray) : (⟨#[]⟩ : ByteArray) ++ s = s := by apply ByteArray.ext; simp
end Go.Proofs.YtnjifhlabbejoaaGreatDoor
