/- The reader's Text. Own work. -/
import Derived.Test.YthnigmbdacjlnaaCwD
import Derived.WalkSpells
namespace Go.Proofs.Ythnigmbdacjlnaa.Cw
open Go.RowKit
set_option linter.unusedVariables false
set_option linter.unusedSimpArgs false

/-- A text is read: the text, what is wrong, what is left, what is wrong from now on. -/
def rdT (most : Int) (s : ByteArray) (e : Nat) : ByteArray × Nat × ByteArray × Nat :=
  if most < 0 then (⟨#[]⟩, 1, s, e)
  else if e = 0 then
    if (sv s 9 127 9 0 0).2.2 = 0 then
      if most < (sv s 9 127 9 0 0).1 then (⟨#[]⟩, 2, s, 2)
      else if s.size < (sv s 9 127 9 0 0).2.1 + (sv s 9 127 9 0 0).1 then (⟨#[]⟩, 20, s, 20)
      else (s.extract (sv s 9 127 9 0 0).2.1 ((sv s 9 127 9 0 0).2.1 + (sv s 9 127 9 0 0).1), 0, s.extract ((sv s 9 127 9 0 0).2.1 + (sv s 9 127 9 0 0).1) s.size, 0)
    else (⟨#[]⟩, (sv s 9 127 9 0 0).2.2, s, (sv s 9 127 9 0 0).2.2)
  else (⟨#[]⟩, e, s, e)

theorem ret2s {s t : ByteArray} {b d : Int} {k' : IntKind} (h1 : s = t) (h2 : b = d) : Ending.returned (.tuple #[.string s, .int k' b]) = .returned (.tuple #[.string t, .int k' d]) := by subst h1; subst h2; rfl

end Go.Proofs.Ythnigmbdacjlnaa.Cw
