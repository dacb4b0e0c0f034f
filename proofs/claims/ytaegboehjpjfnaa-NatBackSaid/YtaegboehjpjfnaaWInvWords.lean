import Derived.Test.YtaegboehjpjfnaaWInv
import Derived.Test.YtaegboehjpjfnaaWFootNe
namespace Go.Proofs.YtaegboehjpjfnaaW.PrintWords
open Go.RowKit
end Go.Proofs.YtaegboehjpjfnaaW.PrintWords
namespace Go.Proofs.YtaegboehjpjfnaaW.PrintLast
section
variable {ops : Array Oper} {a : Act} {o og : Oper} {g : Nat} {t : Tmp} {u : Bool}
end
end Go.Proofs.YtaegboehjpjfnaaW.PrintLast
