/- Printed by an own program: functions, and proofs that the program's calls come to them. -/
import Derived.Test.YtjbapiogekjdnaaPU0
namespace Go.Proofs.Ytjbapiogekjdnaa.PU
open Go.RowKit Go.Proofs.YtjbapiogekjdnaaW.PrintWords Go.Proofs.YtjbapiogekjdnaaW.PrintLast Go.Proofs.YtjbapiogekjdnaaW.PrintMore
attribute [local go_sem] max2_int min2_int max_two min_two max_three min_three max_four min_four   -- for this text's walks alone
set_option linter.unusedVariables false
set_option linter.unusedSimpArgs false

-- given
-- imports: 

-- CALLS pleacher/pleacherlaw02.shown pleacher/pleacherlaw02.cut pleacher/utf.Valid pleacher/utf.Count pleacher/utf.IsName pleacher/utf.IsText pleacher/pleacherref02.Valid pleacher/pleacherref02.Count pleacher/pleacherref02.IsName pleacher/pleacherref02.IsText
-- its walk is written by hand

end Go.Proofs.Ytjbapiogekjdnaa.PU
