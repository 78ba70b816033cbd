/- Written by a program of this session's own (wip/tools): functions of the program told as plain Lean functions, each with its contract, or the row of a statement out of its pure form. -/
import Derived.Test.YtnifikpldibbdabPLisx0
import Derived.Test.YtnifikpldibbdabPLisx1
import Derived.Test.YtnifikpldibbdabPLisx2
import Derived.Test.YtnifikpldibbdabPLisx3
import Derived.Test.YtnifikpldibbdabPLisx4
import Derived.Test.YtnifikpldibbdabPLisx5
import Derived.Test.YtnifikpldibbdabPLisx6
import Derived.Test.YtnifikpldibbdabPLisx7
import Derived.Test.YtnifikpldibbdabPLisx8
import Derived.Test.YtnifikpldibbdabPLisx9
import Derived.Test.YtnifikpldibbdabPLisx10
import Derived.Test.YtnifikpldibbdabPLisx11
import Derived.Test.YtnifikpldibbdabPLisx12
import Derived.Test.YtnifikpldibbdabPLisx13
import Derived.Test.YtnifikpldibbdabPLisx14
namespace Go.Proofs.Ytnifikpldibbdab.PLis
open Go.RowKit Go.Proofs.YtnifikpldibbdabW.PrintWords Go.Proofs.YtnifikpldibbdabW.PrintLast Go.Proofs.YtnifikpldibbdabW.PrintMore
attribute [local go_sem] max2_int min2_int max_two min_two max_three min_three max_four min_four   -- for this text's walks alone
set_option linter.unusedVariables false
set_option linter.unusedSimpArgs false

end Go.Proofs.Ytnifikpldibbdab.PLis
