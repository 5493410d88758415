/- codec.seven by a walk. Own work. -/
import Derived.Test.YthnigmbdacjlnaaCwA
import Derived.Test.YthnigmbdacjlnaaCwP
namespace Go.Proofs.Ythnigmbdacjlnaa.Cw
open Go.RowKit
set_option linter.unusedVariables false
set_option linter.unusedSimpArgs false

theorem ret3 {a b c a' b' c' : Int} (h1 : a = a') (h2 : b = b') (h3 : c = c') : Ending.returned (.tuple #[.int .u64 a, .int .i64 b, .int .i64 c]) = .returned (.tuple #[.int .u64 a', .int .i64 b', .int .i64 c']) := by subst h1; subst h2; subst h3; rfl

def Pow (m k : Nat) : Prop := m < 128 ^ k

end Go.Proofs.Ythnigmbdacjlnaa.Cw
