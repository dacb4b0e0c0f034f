/- The answers that the document fixes: they are given. -/
import Derived.Test.YtaegboehjpjfnaaPx0
import Derived.Test.YtaegboehjpjfnaaPx8
import Derived.Test.YtaegboehjpjfnaaRefA
set_option linter.unusedVariables false
set_option linter.unusedSimpArgs false
namespace Go.Proofs.Ytaegboehjpjfnaa.Pl
open Go.RowKit Go.Proofs.YtaegboehjpjfnaaW.PrintWords Go.Proofs.YtaegboehjpjfnaaW.PrintLast Go.Proofs.YtaegboehjpjfnaaW.PrintMore Go.Proofs.Ytaegboehjpjfnaa.P Go.Proofs.Ytaegboehjpjfnaa.Mine
theorem awake_k : tableaulaw01_awake.f 100 = some true := by decide +kernel
theorem awake_eq : Ev (fun k => tableaulaw01_awake.f k) true := Ev.of (fun k => tableaulaw01_awake.mono k) awake_k
end Go.Proofs.Ytaegboehjpjfnaa.Pl
