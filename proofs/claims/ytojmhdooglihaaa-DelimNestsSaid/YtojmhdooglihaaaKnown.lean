/- The example that each law plays (three and three): true. No conditions. -/
import Derived.Test.YtojmhdooglihaaaPAx7
import Derived.Test.YtojmhdooglihaaaAid
namespace Go.Proofs.Ytojmhdooglihaaa.Pure
open Go.RowKit Go.Proofs.Ytojmhdooglihaaa.PA Go.Proofs.YtojmhdooglihaaaW.PrintWords Go.Proofs.YtojmhdooglihaaaW.PrintLast
open Go.Proofs.YtojmhdooglihaaaAid
theorem known_ev : Ev (fun k => rubricatorlaw20_known.f k) true := Ev.of rubricatorlaw20_known.mono (k := 10) (by decide +kernel)
theorem known_end : Ev (fun k => (rubricatorlaw20_known.f k).bind fun t => some t) true := Ev.bind known_ev (Ev.now _)
end Go.Proofs.Ytojmhdooglihaaa.Pure
