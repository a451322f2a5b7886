/- Printed by an own program: functions, and proofs that the program's calls come to them. -/
import Derived.Test.YtjbapiogekjdnaaPU0
import Derived.Test.YtjbapiogekjdnaaPU1
import Derived.Test.YtjbapiogekjdnaaPU2
import Derived.Test.YtjbapiogekjdnaaPU3
import Derived.Test.YtjbapiogekjdnaaPU4
import Derived.Test.YtjbapiogekjdnaaPU5
import Derived.Test.YtjbapiogekjdnaaPU6
import Derived.Test.YtjbapiogekjdnaaPU7
import Derived.Test.YtjbapiogekjdnaaPU8
import Derived.Test.YtjbapiogekjdnaaPU9
import Derived.Test.YtjbapiogekjdnaaPU10
import Derived.Test.YtjbapiogekjdnaaPU11
import Derived.Test.YtjbapiogekjdnaaPU12
import Derived.Test.YtjbapiogekjdnaaPU13
import Derived.Test.YtjbapiogekjdnaaPU14
import Derived.Test.YtjbapiogekjdnaaPU15
import Derived.Test.YtjbapiogekjdnaaPU16
import Derived.Test.YtjbapiogekjdnaaPU17
namespace Go.Proofs.Ytjbapiogekjdnaa.PU
open Go.RowKit Go.Proofs.YtjbapiogekjdnaaW.PrintWords Go.Proofs.YtjbapiogekjdnaaW.PrintLast Go.Proofs.YtjbapiogekjdnaaW.PrintMore
attribute [local go_sem] max2_int min2_int max_two min_two max_three min_three max_four min_four   -- for this text's walks alone
set_option linter.unusedVariables false
set_option linter.unusedSimpArgs false

end Go.Proofs.Ytjbapiogekjdnaa.PU
