/- How a gate reads; rows of three numbers. -/
import Derived.Test.YtoafgpeghokhgaaOpenM
import Derived.Test.YtoafgpeghokhgaaGate
namespace Go.Proofs.Ytoafgpeghokhgaa
set_option linter.unusedSimpArgs false
set_option linter.unusedVariables false
open Go.RowKit Go.ChangeShapes Go.WideShapes Go.ChangeAt Go.Deep
def encR2 (x : Int × (Sl × List Int)) : List Value := [.int .i64 x.1, .slice x.2.1.a x.2.1.n x.2.1.c]
set_option maxRecDepth 100000 in
theorem o_rev2 : OpensTo Try.prog 25 encR2 (fun w x => (Lit.int .i64 x.1).wf = true ∧ Rd w encI x.2.1 x.2.2 ∧ ∀ a ∈ x.2.2, okI w a) := fun enc w fuel cs x h => by
  obtain ⟨xs, n, _, _, hl, hxl, hf⟩ := DataW.trod_struct Try.underlying25 h
  have hl2 : cs.length = 2 := hl.trans (by kernel_rfl)
  obtain ⟨a, ea, wa⟩ := opens_field hf hxl 0 _ rfl o_int 1 C_int
  obtain ⟨⟨s, l⟩, eb, wb⟩ := opens_field hf hxl 1 _ rfl o_ints 1 (by kernel_rfl)
  match cs, hl2 with
  | [c0, c1], _ =>
    simp at ea eb
    subst ea eb
    exact ⟨(a, s, l), rfl, wa, wb.1, wb.2⟩
def GV.enc (g : GV) : List Value := [.int .i64 g.id, .int .i64 g.lift, .int .i64 g.operator, .int .i64 g.seq, .int .u64 g.key, .int .i64 g.version, .slice g.sl.a g.sl.n g.sl.c, .int .i64 g.heard]
structure GV.wf (g : GV) : Prop where
  id : (Lit.int .i64 g.id).wf = true
  lift : (Lit.int .i64 g.lift).wf = true
  operator : (Lit.int .i64 g.operator).wf = true
  seq : (Lit.int .i64 g.seq).wf = true
  key : (Lit.int .u64 g.key).wf = true
  version : (Lit.int .i64 g.version).wf = true
  heard : (Lit.int .i64 g.heard).wf = true
  list : ∀ a ∈ g.list, (Lit.int .i64 a).wf = true
set_option maxRecDepth 100000 in
theorem o_gate : OpensTo Try.prog 27 GV.enc (fun w g => g.at_ w ∧ g.wf) := fun enc w fuel cs x h => by
  obtain ⟨xs, n, _, _, hl, hxl, hf⟩ := DataW.trod_struct Try.underlying27 h
  have hl8 : cs.length = 8 := hl.trans (by kernel_rfl)
  obtain ⟨a0, e0, w0⟩ := opens_field hf hxl 0 _ rfl o_int 1 C_int
  obtain ⟨a1, e1, w1⟩ := opens_field hf hxl 1 _ rfl o_int 1 C_int
  obtain ⟨a2, e2, w2⟩ := opens_field hf hxl 2 _ rfl o_int 1 C_int
  obtain ⟨a3, e3, w3⟩ := opens_field hf hxl 3 _ rfl o_int 1 C_int
  obtain ⟨a4, e4, w4⟩ := opens_field hf hxl 4 _ rfl o_u64 1 (by kernel_rfl)
  obtain ⟨⟨a5, s, l⟩, e5, w5⟩ := opens_field hf hxl 5 _ rfl o_rev2 2 (by kernel_rfl)
  obtain ⟨a6, e6, w6⟩ := opens_field hf hxl 6 _ rfl o_int 1 C_int
  match cs, hl8 with
  | [c0, c1, c2, c3, c4, c5, c6, c7], _ =>
    simp [encR2] at e0 e1 e2 e3 e4 e5 e6
    obtain ⟨e5, e5'⟩ := e5
    subst e0 e1 e2 e3 e4 e5 e5' e6
    exact ⟨⟨a0, a1, a2, a3, a4, a5, s, a6, l⟩, rfl, w5.2.1, w0, w1, w2, w3, w4, w5.1, w6, w5.2.2⟩
end Go.Proofs.Ytoafgpeghokhgaa
