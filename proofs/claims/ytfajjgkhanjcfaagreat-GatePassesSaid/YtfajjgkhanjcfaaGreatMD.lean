/- Several of my texts in one: OpenV, OpenM, OpenG. -/
import Derived.Test.YtfajjgkhanjcfaaGreatOpen
import Derived.Test.YtfajjgkhanjcfaaGreatProd
import Derived.Test.YtfajjgkhanjcfaaGreatMedia
import Derived.Test.YtfajjgkhanjcfaaGreatGate
/- How a product reads. -/
namespace Go.Proofs.YtfajjgkhanjcfaaGreat
set_option linter.unusedSimpArgs false
set_option linter.unusedVariables false
open Go.RowKit Go.ChangeShapes Go.WideShapes Go.ChangeAt Go.Deep

abbrev okI (_ : World) (n : Int) : Prop := (Lit.int .i64 n).wf = true
theorem o_int : OpensTo Tryz.prog 3 encI okI := opens_int Tryz.underlying3
theorem o_ints : OpensTo Tryz.prog 23 (fun x : Sl × List Int => [.slice x.1.a x.1.n x.1.c]) (fun w x => Rd w encI x.1 x.2 ∧ ∀ a ∈ x.2, okI w a) :=
  opens_slice Tryz.underlying23 o_int 1 (by kernel_rfl) (by decide) (fun _ => rfl)
def okH (_ : World) (h : Hrs) : Prop := (Lit.int .i64 h.days).wf = true ∧ (Lit.int .i64 h.from_).wf = true ∧ (Lit.int .i64 h.till).wf = true
theorem C_int : Tryz.prog.cellsOf 3 = 1 := by kernel_rfl
set_option maxRecDepth 100000 in
theorem o_hrs : OpensTo Tryz.prog 72 Hrs.enc okH := fun enc w fuel cs x h => by
  obtain ⟨xs, n, _, _, hl, hxl, hf⟩ := DataW.trod_struct Tryz.underlying72 h
  have hl3 : cs.length = 3 := hl.trans (by kernel_rfl)
  obtain ⟨a, ea, wa⟩ := opens_field hf hxl 0 _ rfl o_int 1 C_int
  obtain ⟨b, eb, wb⟩ := opens_field hf hxl 1 _ rfl o_int 1 C_int
  obtain ⟨c, ec, wc⟩ := opens_field hf hxl 2 _ rfl o_int 1 C_int
  match cs, hl3 with
  | [c0, c1, c2], _ =>
    simp at ea eb ec
    subst ea eb ec
    exact ⟨⟨a, b, c⟩, rfl, wa, wb, wc⟩
theorem o_hours : OpensTo Tryz.prog 52 (fun x : Sl × List Hrs => [.slice x.1.a x.1.n x.1.c]) (fun w x => Rd w Hrs.enc x.1 x.2 ∧ ∀ a ∈ x.2, okH w a) :=
  opens_slice Tryz.underlying52 o_hrs 3 (by kernel_rfl) (by decide) (fun _ => rfl)
def encP2 (x : Int × Int) : List Value := [.int .i64 x.1, .int .i64 x.2]
set_option maxRecDepth 100000 in
theorem o_interval : OpensTo Tryz.prog 54 encP2 (fun _ x => (Lit.int .i64 x.1).wf = true ∧ (Lit.int .i64 x.2).wf = true) := fun enc w fuel cs x h => by
  obtain ⟨xs, n, _, _, hl, hxl, hf⟩ := DataW.trod_struct Tryz.underlying54 h
  have hl2 : cs.length = 2 := hl.trans (by kernel_rfl)
  obtain ⟨a, ea, wa⟩ := opens_field hf hxl 0 _ rfl o_int 1 C_int
  obtain ⟨b, eb, wb⟩ := opens_field hf hxl 1 _ rfl o_int 1 C_int
  match cs, hl2 with
  | [c0, c1], _ =>
    simp at ea eb
    subst ea eb
    exact ⟨(a, b), rfl, wa, wb⟩
def PD.wf (p : PD) : Prop := (Lit.int .i64 p.id).wf = true ∧ (Lit.int .i64 p.kind).wf = true ∧ (Lit.int .i64 p.units).wf = true ∧ (Lit.int .i64 p.least).wf = true ∧ (Lit.int .i64 p.most).wf = true ∧ (Lit.int .i64 p.sf).wf = true ∧ (Lit.int .i64 p.st).wf = true ∧ (Lit.int .i64 p.price).wf = true ∧ (∀ a ∈ p.ops, (Lit.int .i64 a).wf = true) ∧ ∀ h ∈ p.hours, (Lit.int .i64 h.days).wf = true ∧ (Lit.int .i64 h.from_).wf = true ∧ (Lit.int .i64 h.till).wf = true
set_option maxRecDepth 100000 in
theorem o_product : OpensTo Tryz.prog 56 PD.enc (fun w p => p.at_ w ∧ p.wf) := fun enc w fuel cs x h => by
  obtain ⟨xs, n, _, _, hl, hxl, hf⟩ := DataW.trod_struct Tryz.underlying56 h
  have hl10 : cs.length = 10 := hl.trans (by kernel_rfl)
  obtain ⟨a0, e0, w0⟩ := opens_field hf hxl 0 _ rfl o_int 1 C_int
  obtain ⟨a1, e1, w1⟩ := opens_field hf hxl 1 _ rfl o_int 1 C_int
  obtain ⟨a2, e2, w2⟩ := opens_field hf hxl 2 _ rfl o_int 1 C_int
  obtain ⟨a3, e3, w3⟩ := opens_field hf hxl 3 _ rfl o_int 1 C_int
  obtain ⟨a4, e4, w4⟩ := opens_field hf hxl 4 _ rfl o_int 1 C_int
  obtain ⟨⟨so, ops⟩, e5, w5⟩ := opens_field hf hxl 5 _ rfl o_ints 1 (by kernel_rfl)
  obtain ⟨⟨sh, hours⟩, e6, w6⟩ := opens_field hf hxl 6 _ rfl o_hours 1 (by kernel_rfl)
  obtain ⟨⟨sf, st⟩, e7, w7⟩ := opens_field hf hxl 7 _ rfl o_interval 2 (by kernel_rfl)
  obtain ⟨a8, e8, w8⟩ := opens_field hf hxl 8 _ rfl o_int 1 C_int
  match cs, hl10 with
  | [c0, c1, c2, c3, c4, c5, c6, c7, c8, c9], _ =>
    simp [encP2] at e0 e1 e2 e3 e4 e5 e6 e7 e8
    obtain ⟨e7, e7'⟩ := e7
    subst e0 e1 e2 e3 e4 e5 e6 e7 e7' e8
    exact ⟨⟨a0, a1, a2, a3, a4, so, sh, sf, st, a8, ops, hours⟩, rfl, ⟨w5.1, w6.1⟩, w0, w1, w2, w3, w4, w7.1, w7.2, w8, w5.2, w6.2⟩
theorem o_products : OpensTo Tryz.prog 28 (fun x : Sl × List PD => [.slice x.1.a x.1.n x.1.c]) (fun w x => Rd w PD.enc x.1 x.2 ∧ ∀ a ∈ x.2, a.at_ w ∧ a.wf) :=
  opens_slice Tryz.underlying28 o_product 10 (by kernel_rfl) (by decide) (fun _ => rfl)
end Go.Proofs.YtfajjgkhanjcfaaGreat

/- How a medium reads. -/
namespace Go.Proofs.YtfajjgkhanjcfaaGreat
set_option linter.unusedSimpArgs false
set_option linter.unusedVariables false
open Go.RowKit Go.ChangeShapes Go.WideShapes Go.ChangeAt Go.Deep
def MV.enc (m : MV) : List Value := [.int .i64 m.serial, .int .i64 m.counter, .int .i64 m.product, .int .i64 m.first, .int .i64 m.left, .int .i64 m.today, .int .i64 m.lift, .int .i64 m.at_, .int .u64 m.tag]
def MV.wf (m : MV) : Prop := (Lit.int .i64 m.serial).wf = true ∧ (Lit.int .i64 m.counter).wf = true ∧ (Lit.int .i64 m.product).wf = true ∧ (Lit.int .i64 m.first).wf = true ∧ (Lit.int .i64 m.left).wf = true ∧ (Lit.int .i64 m.today).wf = true ∧ (Lit.int .i64 m.lift).wf = true ∧ (Lit.int .i64 m.at_).wf = true ∧ (Lit.int .u64 m.tag).wf = true
theorem o_u64 : OpensTo Tryz.prog 22 (fun n : Int => [.int .u64 n]) (fun _ n => (Lit.int .u64 n).wf = true) := opens_int Tryz.underlying22
set_option maxRecDepth 100000 in
theorem o_media : OpensTo Tryz.prog 30 MV.enc (fun _ m => m.wf) := fun enc w fuel cs x h => by
  obtain ⟨xs, n, _, _, hl, hxl, hf⟩ := DataW.trod_struct Tryz.underlying30 h
  have hl9 : cs.length = 9 := hl.trans (by kernel_rfl)
  obtain ⟨a0, e0, w0⟩ := opens_field hf hxl 0 _ rfl o_int 1 C_int
  obtain ⟨a1, e1, w1⟩ := opens_field hf hxl 1 _ rfl o_int 1 C_int
  obtain ⟨a2, e2, w2⟩ := opens_field hf hxl 2 _ rfl o_int 1 C_int
  obtain ⟨a3, e3, w3⟩ := opens_field hf hxl 3 _ rfl o_int 1 C_int
  obtain ⟨a4, e4, w4⟩ := opens_field hf hxl 4 _ rfl o_int 1 C_int
  obtain ⟨a5, e5, w5⟩ := opens_field hf hxl 5 _ rfl o_int 1 C_int
  obtain ⟨a6, e6, w6⟩ := opens_field hf hxl 6 _ rfl o_int 1 C_int
  obtain ⟨a7, e7, w7⟩ := opens_field hf hxl 7 _ rfl o_int 1 C_int
  obtain ⟨a8, e8, w8⟩ := opens_field hf hxl 8 _ rfl o_u64 1 (by kernel_rfl)
  match cs, hl9 with
  | [c0, c1, c2, c3, c4, c5, c6, c7, c8], _ =>
    simp at e0 e1 e2 e3 e4 e5 e6 e7 e8
    subst e0 e1 e2 e3 e4 e5 e6 e7 e8
    exact ⟨⟨a0, a1, a2, a3, a4, a5, a6, a7, a8⟩, rfl, w0, w1, w2, w3, w4, w5, w6, w7, w8⟩
end Go.Proofs.YtfajjgkhanjcfaaGreat

/- How a gate reads; rows of three numbers. -/
namespace Go.Proofs.YtfajjgkhanjcfaaGreat
set_option linter.unusedSimpArgs false
set_option linter.unusedVariables false
open Go.RowKit Go.ChangeShapes Go.WideShapes Go.ChangeAt Go.Deep
def encR2 (x : Int × (Sl × List Int)) : List Value := [.int .i64 x.1, .slice x.2.1.a x.2.1.n x.2.1.c]
set_option maxRecDepth 100000 in
theorem o_rev2 : OpensTo Tryz.prog 25 encR2 (fun w x => (Lit.int .i64 x.1).wf = true ∧ Rd w encI x.2.1 x.2.2 ∧ ∀ a ∈ x.2.2, okI w a) := fun enc w fuel cs x h => by
  obtain ⟨xs, n, _, _, hl, hxl, hf⟩ := DataW.trod_struct Tryz.underlying25 h
  have hl2 : cs.length = 2 := hl.trans (by kernel_rfl)
  obtain ⟨a, ea, wa⟩ := opens_field hf hxl 0 _ rfl o_int 1 C_int
  obtain ⟨⟨s, l⟩, eb, wb⟩ := opens_field hf hxl 1 _ rfl o_ints 1 (by kernel_rfl)
  match cs, hl2 with
  | [c0, c1], _ =>
    simp at ea eb
    subst ea eb
    exact ⟨(a, s, l), rfl, wa, wb.1, wb.2⟩
def GV.enc (g : GV) : List Value := [.int .i64 g.id, .int .i64 g.lift, .int .i64 g.operator, .int .i64 g.seq, .int .u64 g.key, .int .i64 g.version, .slice g.sl.a g.sl.n g.sl.c, .int .i64 g.heard]
structure GV.wf (g : GV) : Prop where
  id : (Lit.int .i64 g.id).wf = true
  lift : (Lit.int .i64 g.lift).wf = true
  operator : (Lit.int .i64 g.operator).wf = true
  seq : (Lit.int .i64 g.seq).wf = true
  key : (Lit.int .u64 g.key).wf = true
  version : (Lit.int .i64 g.version).wf = true
  heard : (Lit.int .i64 g.heard).wf = true
  list : ∀ a ∈ g.list, (Lit.int .i64 a).wf = true
set_option maxRecDepth 100000 in
theorem o_gate : OpensTo Tryz.prog 27 GV.enc (fun w g => g.at_ w ∧ g.wf) := fun enc w fuel cs x h => by
  obtain ⟨xs, n, _, _, hl, hxl, hf⟩ := DataW.trod_struct Tryz.underlying27 h
  have hl8 : cs.length = 8 := hl.trans (by kernel_rfl)
  obtain ⟨a0, e0, w0⟩ := opens_field hf hxl 0 _ rfl o_int 1 C_int
  obtain ⟨a1, e1, w1⟩ := opens_field hf hxl 1 _ rfl o_int 1 C_int
  obtain ⟨a2, e2, w2⟩ := opens_field hf hxl 2 _ rfl o_int 1 C_int
  obtain ⟨a3, e3, w3⟩ := opens_field hf hxl 3 _ rfl o_int 1 C_int
  obtain ⟨a4, e4, w4⟩ := opens_field hf hxl 4 _ rfl o_u64 1 (by kernel_rfl)
  obtain ⟨⟨a5, s, l⟩, e5, w5⟩ := opens_field hf hxl 5 _ rfl o_rev2 2 (by kernel_rfl)
  obtain ⟨a6, e6, w6⟩ := opens_field hf hxl 6 _ rfl o_int 1 C_int
  match cs, hl8 with
  | [c0, c1, c2, c3, c4, c5, c6, c7], _ =>
    simp [encR2] at e0 e1 e2 e3 e4 e5 e6
    obtain ⟨e5, e5'⟩ := e5
    subst e0 e1 e2 e3 e4 e5 e5' e6
    exact ⟨⟨a0, a1, a2, a3, a4, a5, s, a6, l⟩, rfl, w5.2.1, w0, w1, w2, w3, w4, w5.1, w6, w5.2.2⟩
end Go.Proofs.YtfajjgkhanjcfaaGreat
