/- The law FnExactNewBoard: the program's NewBoard and the reference's return the same state. No condition. -/
import Derived.Test.YtdnehiakmaacgaaPx42
import Derived.Test.YtdnehiakmaacgaaBase
namespace Go.Proofs.Ytdnehiakmaacgaa.Pure
open Go.RowKit Go.Proofs.Ytdnehiakmaacgaa.P Go.Proofs.YtdnehiakmaacgaaW.PrintWords Go.Proofs.YtdnehiakmaacgaaW.PrintLast

theorem FnExactNewBoard : ∃ k, laws_FnExactNewBoard.f k = some true := ⟨4, by decide +kernel⟩
end Go.Proofs.Ytdnehiakmaacgaa.Pure
