/- Rings: the reference's sums. -/
import Derived.Test.YtibjpjpbmkdddaaE7
namespace Go.Proofs.Ytibjpjpbmkdddaa
set_option linter.unusedSimpArgs false
set_option linter.unusedVariables false
open Go.ChangeShapes Go.WideShapes Go.ChangeAt Go.RowKit
open Go.RowKit (wrap32 wrap64)
set_option maxHeartbeats 4000000

theorem wCmp_cases (a b : Wd) : wCmp a b = if a.1 < b.1 ∨ (a.1 = b.1 ∧ a.2 < b.2) then -1 else if a = b then 0 else 1 := by
  obtain ⟨a1, a2⟩ := a
  obtain ⟨b1, b2⟩ := b
  unfold wCmp orI cmpI
  dsimp only
  by_cases h1 : a1 < b1
  · simp [h1]
  · by_cases h2 : b1 < a1
    · have h3 : ¬ a1 = b1 := by omega
      simp [h1, h2, h3]
    · obtain rfl : a1 = b1 := by omega
      by_cases h4 : a2 < b2
      · have : (a2 : Int) < b2 := by omega
        simp [h4]
      · by_cases h5 : b2 < a2
        · have h6 : ¬ a2 = b2 := by omega
          simp [h4, h5, h6]
        · obtain rfl : a2 = b2 := by omega
          simp

end Go.Proofs.Ytibjpjpbmkdddaa
