/- How postings read. -/
import Derived.Test.YtodbcjhghpiloaaOpen
import Derived.Test.YtodbcjhghpiloaaLedEq
namespace Go.Proofs.Ytodbcjhghpiloaa
set_option linter.unusedSimpArgs false
set_option linter.unusedVariables false
open Go.RowKit Go.ChangeShapes Go.WideShapes Go.ChangeAt Go.Deep
abbrev okI (_ : World) (n : Int) : Prop := (Lit.int .i64 n).wf = true
theorem o_int : OpensTo Try.prog 3 (fun n : Int => [.int .i64 n]) okI := opens_int Try.underlying3
theorem C_int : Try.prog.cellsOf 3 = 1 := by kernel_rfl
def PV.wf (m : PV) : Prop := (Lit.int .i64 m.ref).wf = true ∧ (Lit.int .i64 m.from_).wf = true ∧ (Lit.int .i64 m.to_).wf = true ∧ (Lit.int .i64 m.amount).wf = true
theorem o_posting : OpensTo Try.prog 28 PV.enc (fun _ r => r.wf) := fun enc w fuel cs x h => by
  obtain ⟨xs, n, _, _, hl, hxl, hf⟩ := DataW.trod_struct Try.underlying28 h
  have hl4 : cs.length = 4 := hl.trans (by kernel_rfl)
  obtain ⟨a, ea, wa⟩ := opens_field hf hxl 0 _ rfl o_int 1 C_int
  obtain ⟨b, eb, wb⟩ := opens_field hf hxl 1 _ rfl o_int 1 C_int
  obtain ⟨c, ec, wc⟩ := opens_field hf hxl 2 _ rfl o_int 1 C_int
  obtain ⟨d, ed, wd⟩ := opens_field hf hxl 3 _ rfl o_int 1 C_int
  match cs, hl4 with
  | [c0, c1, c2, c3], _ =>
    simp at ea eb ec ed
    subst ea eb ec ed
    exact ⟨⟨a, b, c, d⟩, rfl, wa, wb, wc, wd⟩
theorem o_postings : OpensTo Try.prog 22 (fun x : Sl × List PV => [.slice x.1.a x.1.n x.1.c]) (fun w x => Rd w PV.enc x.1 x.2 ∧ ∀ a ∈ x.2, a.wf) :=
  opens_slice Try.underlying22 o_posting 4 (by kernel_rfl) (by decide) (fun _ => rfl)
end Go.Proofs.Ytodbcjhghpiloaa
