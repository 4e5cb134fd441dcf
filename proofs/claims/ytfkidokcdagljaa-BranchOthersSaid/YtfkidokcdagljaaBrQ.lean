/-
  How Go's > on strings reads: the second is less than the first.
-/
import Derived.Laws.Strings
import Derived.Sort.Walk0
namespace Go.Proofs.Ytfkidokcdagljaa
open Go
theorem binOp_string_gtr2 (t : TypeId) (a b : ByteArray) : binOp .gtr t (.string a) (.string b) = pure (.bool (Op.bytesLess b.toList a.toList)) := by
  have e0 : binOp .gtr t (.string a) (.string b) = pure (.bool (!(Op.bytesLess a.toList b.toList || a.toList == b.toList))) := by simp [binOp, Op.stringOp]
  rw [e0]
  have e : (!(Op.bytesLess a.toList b.toList || a.toList == b.toList)) = Op.bytesLess b.toList a.toList := by
    rw [bytesLess_eq, bytesLess_eq]
    generalize a.toList = x
    generalize b.toList = y
    by_cases h1 : x < y
    · have : ¬ y < x := fun h => absurd (List.lt_trans h1 h) (List.lt_irrefl _)
      simp [h1, this]
    · by_cases h2 : x = y
      · subst h2; simp
      · have : y < x := by
          have hle : y ≤ x := by simpa using h1
          rcases List.le_iff_lt_or_eq.1 hle with h | h
          · exact h
          · exact absurd h.symm h2
        simp [h1, h2, this]
  rw [e]
end Go.Proofs.Ytfkidokcdagljaa
