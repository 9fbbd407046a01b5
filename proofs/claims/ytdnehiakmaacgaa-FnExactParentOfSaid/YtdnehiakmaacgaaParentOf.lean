/- The law FnExactParentOf: the program's ParentOf and the reference's return the same tile and code. No condition. -/
import Derived.Test.YtdnehiakmaacgaaPx19
import Derived.Test.YtdnehiakmaacgaaTile
namespace Go.Proofs.Ytdnehiakmaacgaa.Pure
open Go.RowKit Go.Proofs.Ytdnehiakmaacgaa.P Go.Proofs.YtdnehiakmaacgaaW.PrintWords Go.Proofs.YtdnehiakmaacgaaW.PrintLast

theorem parentOf_eq (l x y : Int) : ∃ r, spec_ParentOf.f l x y = some r ∧ impl_ParentOf.f l x y = some r := by
  unfold spec_ParentOf.f impl_ParentOf.f
  rw [ok_tile, valid_tile]
  simp only [Option.bind_some, parent_some, parent_some']
  repeat' split
  all_goals exact ⟨_, rfl, rfl⟩

theorem FnExactParentOf (a0_0 a0_1 a0_2 : Int) (_ : (Lit.int .i64 a0_0).wf = true) (_ : (Lit.int .i64 a0_1).wf = true) (_ : (Lit.int .i64 a0_2).wf = true) :
    laws_FnExactParentOf.f a0_0 a0_1 a0_2 = some true := by
  obtain ⟨⟨r1, r2, r3, r4⟩, h1, h2⟩ := parentOf_eq a0_0 a0_1 a0_2
  simp only [laws_FnExactParentOf.f, laws_toTile.f, laws_eqTile.f, h1, h2, Option.bind_some, if_true]
end Go.Proofs.Ytdnehiakmaacgaa.Pure
