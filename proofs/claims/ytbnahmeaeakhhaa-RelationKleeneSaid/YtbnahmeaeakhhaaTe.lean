/- The errors of a text, of an expression with a text. No program is in sight here. -/
import Derived.Test.YtbnahmeaeakhhaaTy
namespace Go.Proofs.Ytbnahmeaeakhhaa.B
set_option linter.unusedVariables false
set_option linter.unusedSimpArgs false
open Go Go.RowKit

/-- the error of a text -/
def runesErr (most : Int) (t : List Int) : Int := if (t.length : Int) > most then 2 else if t.any (fun c => decide (c < 0) || decide (1114111 < c)) then 1 else 0
/-- of an expression, then of a text -/
def textErr (r : Re) (t : List Int) (most : Int) : Int := if checkRe r 40 ≠ 0 then checkRe r 40 else runesErr most t
end Go.Proofs.Ytbnahmeaeakhhaa.B
