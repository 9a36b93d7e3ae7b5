/- Edges: lengths, and what the closing of a law asks. -/
import Derived.Test.YtfnhfmffkjljnaaE32
import Derived.Test.YtfnhfmffkjljnaaE33
import Derived.Test.YtfnhfmffkjljnaaE27
import Derived.Test.YtfnhfmffkjljnaaE14
import Derived.Test.YtfnhfmffkjljnaaShut
namespace Go.Proofs.Ytfnhfmffkjljnaa
set_option linter.unusedSimpArgs false
set_option linter.unusedVariables false
open Go.ChangeShapes Go.WideShapes Go.ChangeAt Go.RowKit
open Go.RowKit (wrap32 wrap64)
set_option maxHeartbeats 8000000
theorem own : ownKnob Try.prog.godebug = none := by kernel_rfl
theorem laidOut : laidOutB Try.prog = true := by kernel_rfl
theorem canonM_le {M : List Ed} (h : M.length ≤ 60) : (canonP M).length ≤ maxLen := by have := canonP_length M; unfold maxLen; omega
theorem madeM_le {f : Ed → Ed} {p : Ed → Bool} {M : List Ed} (h : M.length ≤ 60) : (canonP (madeP f p M)).length ≤ maxLen := by have := canonP_length (madeP f p M); have := madeP_length f p M; unfold maxLen; omega
theorem bothM_60 {M : List Ed} (h : M.length ≤ 60) : (bothP M).length ≤ 120 := by
  unfold bothP
  have h1 := canonP_length (M ++ canonP (turnL M))
  have h2 := canonP_length (turnL M)
  have h3 : (turnL M).length ≤ M.length := madeP_length turnE allE M
  rw [List.length_append] at h1
  omega
theorem bothM_le {M : List Ed} (h : M.length ≤ 60) : (bothP M).length ≤ maxLen := by have := bothM_60 h; unfold maxLen; omega
theorem gsame (n : Int) (m : List Ed) : (decide (n = n) && decide (m = m)) = true := by simp
theorem isame (m : List Int) : decide (m = m) = true := by simp
end Go.Proofs.Ytfnhfmffkjljnaa
