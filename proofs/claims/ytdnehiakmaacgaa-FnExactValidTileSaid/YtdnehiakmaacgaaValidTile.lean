/- The law FnExactValidTile: the program's ValidTile and the reference's return the same. No condition. -/
import Derived.Test.YtdnehiakmaacgaaPx5
import Derived.Test.YtdnehiakmaacgaaTile
namespace Go.Proofs.Ytdnehiakmaacgaa.Pure
open Go.RowKit Go.Proofs.Ytdnehiakmaacgaa.P Go.Proofs.YtdnehiakmaacgaaW.PrintWords Go.Proofs.YtdnehiakmaacgaaW.PrintLast

theorem FnExactValidTile (a0_0 a0_1 a0_2 : Int) (_ : (Lit.int .i64 a0_0).wf = true) (_ : (Lit.int .i64 a0_1).wf = true) (_ : (Lit.int .i64 a0_2).wf = true) :
    laws_FnExactValidTile.f a0_0 a0_1 a0_2 = some true := by
  simp only [laws_FnExactValidTile.f, laws_toTile.f, spec_ValidTile.f, Option.bind_some, ok_tile, valid_tile, bne_self_eq_false]
  rfl
end Go.Proofs.Ytdnehiakmaacgaa.Pure
