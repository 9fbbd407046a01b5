/- The law FnExactBoardWords: the program's BoardWords and the reference's return the same words, in memory of the result's own. No condition. -/
import Derived.Test.YtdnehiakmaacgaaPFnExactBoardWordsx1
namespace Go.Proofs.Ytdnehiakmaacgaa.Pure
open Go.RowKit Go.Proofs.Ytdnehiakmaacgaa.PFnExactBoardWords Go.Proofs.YtdnehiakmaacgaaW.PrintWords Go.Proofs.YtdnehiakmaacgaaW.PrintLast

theorem FnExactBoardWords : laws_FnExactBoardWords.Pure := ⟨40, by decide +kernel⟩

end Go.Proofs.Ytdnehiakmaacgaa.Pure
