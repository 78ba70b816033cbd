/- Written by a program of this session's own (wip/tools): functions of the program told as plain Lean functions, each with its contract, or the row of a statement out of its pure form. -/
import Derived.Test.YtnifikpldibbdaaPLisx0
import Derived.Test.YtnifikpldibbdaaPLisx1
import Derived.Test.YtnifikpldibbdaaPLisx2
import Derived.Test.YtnifikpldibbdaaPLisx3
import Derived.Test.YtnifikpldibbdaaPLisx4
import Derived.Test.YtnifikpldibbdaaPLisx5
import Derived.Test.YtnifikpldibbdaaPLisx6
import Derived.Test.YtnifikpldibbdaaPLisx7
import Derived.Test.YtnifikpldibbdaaPLisx8
import Derived.Test.YtnifikpldibbdaaPLisx9
import Derived.Test.YtnifikpldibbdaaPLisx10
import Derived.Test.YtnifikpldibbdaaPLisx11
import Derived.Test.YtnifikpldibbdaaPLisx12
import Derived.Test.YtnifikpldibbdaaPLisx13
import Derived.Test.YtnifikpldibbdaaPLisx14
import Derived.Test.YtnifikpldibbdaaPLisx15
import Derived.Test.YtnifikpldibbdaaPLisx16
namespace Go.Proofs.Ytnifikpldibbdaa.PLis
open Go.RowKit Go.Proofs.YtnifikpldibbdaaW.PrintWords Go.Proofs.YtnifikpldibbdaaW.PrintLast Go.Proofs.YtnifikpldibbdaaW.PrintMore
attribute [local go_sem] max2_int min2_int max_two min_two max_three min_three max_four min_four   -- for this text's walks alone
set_option linter.unusedVariables false
set_option linter.unusedSimpArgs false

end Go.Proofs.Ytnifikpldibbdaa.PLis
