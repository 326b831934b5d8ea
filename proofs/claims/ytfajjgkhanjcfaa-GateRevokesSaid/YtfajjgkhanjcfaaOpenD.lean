/- How a revision reads. -/
import Derived.Test.YtfajjgkhanjcfaaMD
import Derived.Test.YtfajjgkhanjcfaaRevZ
namespace Go.Proofs.Ytfajjgkhanjcfaa
set_option linter.unusedSimpArgs false
set_option linter.unusedVariables false
open Go.RowKit Go.ChangeShapes Go.WideShapes Go.ChangeAt Go.Deep
def DV.enc (r : DV) : List Value := [.int .i64 r.from_, .int .i64 r.till, .slice r.sa.a r.sa.n r.sa.c, .slice r.sd.a r.sd.n r.sd.c]
def DV.ok (w : World) (r : DV) : Prop := r.at_ w ∧ WfI r.add ∧ WfI r.drop
set_option maxRecDepth 100000 in
theorem o_revision : OpensTo Try.prog 39 DV.enc DV.ok := fun enc w fuel cs x h => by
  obtain ⟨xs, n, _, _, hl, hxl, hf⟩ := DataW.trod_struct Try.underlying39 h
  have hl4 : cs.length = 4 := hl.trans (by kernel_rfl)
  obtain ⟨a, ea, wa⟩ := opens_field hf hxl 0 _ rfl o_int 1 C_int
  obtain ⟨b, eb, wb⟩ := opens_field hf hxl 1 _ rfl o_int 1 C_int
  obtain ⟨⟨s, l⟩, ec, wc⟩ := opens_field hf hxl 2 _ rfl o_ints 1 (by kernel_rfl)
  obtain ⟨⟨t, m⟩, ed, wd⟩ := opens_field hf hxl 3 _ rfl o_ints 1 (by kernel_rfl)
  match cs, hl4 with
  | [c0, c1, c2, c3], _ =>
    simp at ea eb ec ed
    subst ea eb ec ed
    exact ⟨⟨a, b, s, t, l, m⟩, rfl, ⟨wc.1, wd.1⟩, wc.2, wd.2⟩
end Go.Proofs.Ytfajjgkhanjcfaa
