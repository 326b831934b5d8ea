/- How a medium reads. -/
import Derived.Test.YtoafgpeghokhgaaOpenV
import Derived.Test.YtoafgpeghokhgaaMedia
namespace Go.Proofs.Ytoafgpeghokhgaa
set_option linter.unusedSimpArgs false
set_option linter.unusedVariables false
open Go.RowKit Go.ChangeShapes Go.WideShapes Go.ChangeAt Go.Deep
def MV.enc (m : MV) : List Value := [.int .i64 m.serial, .int .i64 m.counter, .int .i64 m.product, .int .i64 m.first, .int .i64 m.left, .int .i64 m.today, .int .i64 m.lift, .int .i64 m.at_, .int .u64 m.tag]
def MV.wf (m : MV) : Prop := (Lit.int .i64 m.serial).wf = true ∧ (Lit.int .i64 m.counter).wf = true ∧ (Lit.int .i64 m.product).wf = true ∧ (Lit.int .i64 m.first).wf = true ∧ (Lit.int .i64 m.left).wf = true ∧ (Lit.int .i64 m.today).wf = true ∧ (Lit.int .i64 m.lift).wf = true ∧ (Lit.int .i64 m.at_).wf = true ∧ (Lit.int .u64 m.tag).wf = true
theorem o_u64 : OpensTo Try.prog 22 (fun n : Int => [.int .u64 n]) (fun _ n => (Lit.int .u64 n).wf = true) := opens_int Try.underlying22
theorem o_media : OpensTo Try.prog 30 MV.enc (fun _ m => m.wf) := fun enc w fuel cs x h => by
  obtain ⟨xs, n, _, _, hl, hxl, hf⟩ := DataW.trod_struct Try.underlying30 h
  have hl9 : cs.length = 9 := hl.trans (by kernel_rfl)
  obtain ⟨a0, e0, w0⟩ := opens_field hf hxl 0 _ rfl o_int 1 C_int
  obtain ⟨a1, e1, w1⟩ := opens_field hf hxl 1 _ rfl o_int 1 C_int
  obtain ⟨a2, e2, w2⟩ := opens_field hf hxl 2 _ rfl o_int 1 C_int
  obtain ⟨a3, e3, w3⟩ := opens_field hf hxl 3 _ rfl o_int 1 C_int
  obtain ⟨a4, e4, w4⟩ := opens_field hf hxl 4 _ rfl o_int 1 C_int
  obtain ⟨a5, e5, w5⟩ := opens_field hf hxl 5 _ rfl o_int 1 C_int
  obtain ⟨a6, e6, w6⟩ := opens_field hf hxl 6 _ rfl o_int 1 C_int
  obtain ⟨a7, e7, w7⟩ := opens_field hf hxl 7 _ rfl o_int 1 C_int
  obtain ⟨a8, e8, w8⟩ := opens_field hf hxl 8 _ rfl o_u64 1 (by kernel_rfl)
  match cs, hl9 with
  | [c0, c1, c2, c3, c4, c5, c6, c7, c8], _ =>
    simp at e0 e1 e2 e3 e4 e5 e6 e7 e8
    subst e0 e1 e2 e3 e4 e5 e6 e7 e8
    exact ⟨⟨a0, a1, a2, a3, a4, a5, a6, a7, a8⟩, rfl, w0, w1, w2, w3, w4, w5, w6, w7, w8⟩
end Go.Proofs.Ytoafgpeghokhgaa
