/- The first desk of the program is that of the reference, whole and with memory of its own, at each call. No condition. -/
import Derived.Test.YtdddmkdidegngaaPFnExactFirstDeskx2
namespace Go.Proofs.Ytdddmkdidegngaa.Pure
open Go.RowKit Go.Proofs.Ytdddmkdidegngaa.PFnExactFirstDesk Go.Proofs.YtdddmkdidegngaaW.PrintWords Go.Proofs.YtdddmkdidegngaaW.PrintLast

theorem FnExactFirstDesk : laws_FnExactFirstDesk.Pure := ⟨60, by decide +kernel⟩

end Go.Proofs.Ytdddmkdidegngaa.Pure
