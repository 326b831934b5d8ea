/- Passes at gates: the plain law behind TopUses; how the visits read. -/
import Derived.Test.YtoafgpeghokhgaaGateAl
import Derived.Test.YtoafgpeghokhgaaOpenG
namespace Go.Proofs.Ytoafgpeghokhgaa
set_option linter.unusedSimpArgs false
set_option linter.unusedVariables false
open Go.RowKit Go.ChangeShapes Go.WideShapes Go.ChangeAt Go.Deep
structure V3 where
  a : Int
  b : Int
  c : Int
def V3.enc (v : V3) : List Value := [.int .i64 v.a, .int .i64 v.b, .int .i64 v.c]
set_option maxRecDepth 100000 in
theorem o_visit : OpensTo Try.prog 54 V3.enc (fun _ _ => True) := fun enc w fuel cs x h => by
  obtain ⟨xs, n, _, _, hl, hxl, hf⟩ := DataW.trod_array Try.underlying54 h
  have hl3 : cs.length = 3 := hl.trans (by kernel_rfl)
  have key : ∀ i, i < 3 → ∃ a : Int, (cs.drop i).take 1 = encI a := fun i hi => by
    have h1 := hf i hi
    rw [C_int, Nat.mul_one, List.getElem?_eq_getElem (by omega)] at h1
    obtain ⟨a, h2, -⟩ := o_int enc w n _ _ h1
    exact ⟨a, h2⟩
  obtain ⟨a, ea⟩ := key 0 (by decide)
  obtain ⟨b, eb⟩ := key 1 (by decide)
  obtain ⟨c, ec⟩ := key 2 (by decide)
  match cs, hl3 with
  | [c0, c1, c2], _ =>
    simp at ea eb ec
    subst ea eb ec
    exact ⟨⟨a, b, c⟩, rfl, trivial⟩
theorem o_visits : OpensTo Try.prog 51 (fun x : Sl × List V3 => [.slice x.1.a x.1.n x.1.c]) (fun w x => Rd w V3.enc x.1 x.2 ∧ ∀ a ∈ x.2, True) :=
  opens_slice Try.underlying51 o_visit 3 (by kernel_rfl) (by decide) (fun _ => rfl)
theorem Rd.v3 {w : World} {s : Sl} {xs : List V3} (h : Rd w V3.enc s xs) {k : Nat} (hk : k < s.n) : ∃ (b off : Nat) (x : V3), s.a = some ⟨b, off, none⟩ ∧ b < w.heap.size ∧
    w.cell? ⟨b, off + k * 3, none⟩ = some (.int .i64 x.a) ∧ w.cell? ⟨b, off + k * 3 + 1, none⟩ = some (.int .i64 x.b) ∧ w.cell? ⟨b, off + k * 3 + 2, none⟩ = some (.int .i64 x.c) := by
  obtain ⟨b, off, x, e, hb, h1, h2, hc⟩ := h.step hk
  have key : ∀ j u, (V3.enc x)[j]? = some u → w.cell? ⟨b, off + k * 3 + j, none⟩ = some u := fun j u hu => by
    have := hc j u hu
    rw [show off + (k * (V3.enc x).length + j) = off + k * 3 + j from by simp [V3.enc]; omega] at this
    exact this
  exact ⟨b, off, x, e, hb, key 0 _ rfl, key 1 _ rfl, key 2 _ rfl⟩
theorem and7 (x : Int) : 0 ≤ bits BinOp.and IntKind.i64 x 7 ∧ bits BinOp.and IntKind.i64 x 7 ≤ 7 := by
  have h : (BitVec.ofInt 64 x &&& BitVec.ofInt 64 7).toNat ≤ 7 := by
    rw [BitVec.toNat_and]
    exact Nat.le_trans Nat.and_le_right (by decide)
  have e : bits BinOp.and IntKind.i64 x 7 = IntKind.i64.wrap ((BitVec.ofInt 64 x &&& BitVec.ofInt 64 7).toNat : Int) := rfl
  rw [e]
  generalize (BitVec.ofInt 64 x &&& BitVec.ofInt 64 7).toNat = n at h
  have : IntKind.i64.wrap (n : Int) = n := by
    have h8 : n = 0 ∨ n = 1 ∨ n = 2 ∨ n = 3 ∨ n = 4 ∨ n = 5 ∨ n = 6 ∨ n = 7 := by omega
    rcases h8 with rfl | rfl | rfl | rfl | rfl | rfl | rfl | rfl <;> rfl
  omega
theorem tmod_bd (c : Int) : -20000000 < Int.tmod c 20000000 ∧ Int.tmod c 20000000 < 20000000 := by
  have h1 := Int.tmod_lt_of_pos c (show (0 : Int) < 20000000 by decide)
  refine ⟨?_, h1⟩
  have h2 := Int.tmod_lt_of_pos (-c) (show (0 : Int) < 20000000 by decide)
  rw [Int.neg_tmod] at h2
  omega
/-- The pass so far: rides, days (each once, the last one is that of the medium), units that are left. -/
structure TInv (p : PD) (units : Int) (M : MV) (r : Int) (ds : List Int) : Prop where
  prod : M.product = p.id
  left0 : 0 ≤ M.left
  pts : p.kind = 2 → r + M.left = units
  days : p.kind = 1 → (ds.length : Int) + M.left = units
  last : (ds = [] ∧ M.today = -1) ∨ ds.getLast? = some M.today
theorem tinv_start (p : PD) (units T : Int) (hu : 0 ≤ units) : TInv p units ((newM 3 p.id units).tagged T) 0 [] :=
  ⟨rfl, hu, fun _ => by show (0 : Int) + units = units; omega, fun _ => by show ((0 : Nat) : Int) + units = units; omega, .inl ⟨rfl, rfl⟩⟩
theorem tinv_step {p : PD} {units : Int} {M : MV} {r : Int} {ds : List Int} {op lift t T : Int} (h : TInv p units M r ds) (ht0 : 0 ≤ t) (ht1 : t < 20000000) (hE : useE p M op lift t = 0) :
    TInv p units ((useM p M lift t).tagged T) (r + 1) (if t / 86400 = M.today then ds else ds ++ [t / 86400]) := by
  obtain ⟨hw, -, -, -⟩ := use_facts hE
  obtain ⟨w1, w2, -, -, w5, w6, -⟩ := why_facts hw
  obtain ⟨u0, u1, u2⟩ := used_facts w5
  obtain ⟨d0, d1, d2⟩ := day_facts ht0 (show t ≤ 20000000 by omega)
  have hl0 := h.left0
  have hl : ((useM p M lift t).tagged T).left = if p.kind = 2 ∨ (p.kind = 1 ∧ ¬ dayF t = M.today) then M.left - 1 else M.left := rfl
  have htd : ((useM p M lift t).tagged T).today = t / 86400 := d0
  refine ⟨h.prod, ?_, fun hk => ?_, fun hk => ?_, ?_⟩
  · rw [hl]
    split
    · rename_i g
      rcases g with g | ⟨g, g2⟩
      · have := u2 g; omega
      · have : M.left ≠ 0 := fun e => g2 (u1 g e)
        omega
    · exact hl0
  · have := h.pts hk
    rw [hl, if_pos (.inl hk)]
    omega
  · have := h.days hk
    rw [hl, d0]
    by_cases e : t / 86400 = M.today
    · rw [if_pos e, if_neg (by omega)]; exact this
    · rw [if_neg e, if_pos (.inr ⟨hk, e⟩)]; simp; omega
  · rw [htd]
    by_cases e : t / 86400 = M.today
    · rw [if_pos e]
      rcases h.last with ⟨h1, h2⟩ | h1
      · omega
      · exact .inr (by rw [h1, e])
    · rw [if_neg e]
      exact .inr (by simp)
theorem right_one {p : PD} (h : right22 [p] = 0) : 1 ≤ p.id ∧ p.id ≤ 9999 ∧ (p.kind = 0 ∨ p.kind = 1 ∨ p.kind = 2) := by
  have h1 := right22_zero h 0 p rfl
  unfold oneF at h1
  split at h1
  · omega
  rename_i hb
  obtain ⟨f1, f2, f3, -⟩ := range_facts (by simpa using hb)
  exact ⟨f1, f2, f3⟩
theorem find_one {p q : PD} {id : Int} (h : findF id [p] = some q) : q = p := by
  unfold findF at h
  split at h
  · exact (Option.some.inj h).symm
  · cases h
end Go.Proofs.Ytoafgpeghokhgaa
