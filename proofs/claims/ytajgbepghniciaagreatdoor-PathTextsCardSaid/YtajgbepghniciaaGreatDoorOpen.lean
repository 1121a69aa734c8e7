/- The argument of PathTexts, opened. -/
import Derived.Test.YtajgbepghniciaaGreatDoorTerm
import Derived.Test.YtajgbepghniciaaGreatDoorShell
namespace Go.Proofs.YtajgbepghniciaaGreatDoor
open Go.ChangeShapes Go.WideShapes Go.RowKit V
set_option maxRecDepth 100000

theorem inR_of {k : IntKind} {n : Int} (h : (Lit.int k n).wf = true) : InR k n := by
  simp only [Lit.wf, Bool.and_eq_true, decide_eq_true_eq] at h
  cases k <;> exact h
theorem cellsStr : Tryz.prog.cellsOf 9 = 1 := by kernel_rfl
theorem cellsInt : Tryz.prog.cellsOf 3 = 1 := by kernel_rfl
theorem cellsStrs : Tryz.prog.cellsOf 37 = 1 := by kernel_rfl
theorem cellsNode : Tryz.prog.cellsOf 81 = 6 := by kernel_rfl
theorem bytesNode : Tryz.prog.bytesOf 81 = 88 := by kernel_rfl
theorem bytesStr : Tryz.prog.bytesOf 9 = 16 := by kernel_rfl
section
variable {H : Type} {enc : TypeId × Value → H} {W : World}
theorem open_string {c : Value} (h : Opn enc Tryz.prog W 9 [c]) : ∃ s : ByteArray, c = .string s ∧ s.size ≤ 140737488355328 := h.string Tryz.underlying9
theorem open_strs {c : Value} (h : Opn enc Tryz.prog W 37 [c]) :
    ∃ (A : Option Addr) (cap : Nat) (l : List ByteArray), c = .slice A l.length cap ∧ l.length ≤ 140737488355328 ∧ (∀ s ∈ l, s.size ≤ 140737488355328) ∧ SlAt encS 1 W A l := by
  obtain ⟨A, cap, l, h1, h2, h3, h4, h5⟩ := h.slice (en := encS) (R := fun s => s.size ≤ 140737488355328) (size := 1) Tryz.underlying37 cellsStr (by decide) (fun _ => rfl) (fun cs hc => by
    obtain ⟨n, d, ps, h1, h2⟩ := id hc.h
    obtain ⟨s, rfl, _, _⟩ := DataW.trod_string Tryz.underlying9 h1
    obtain ⟨s', e, h3⟩ := open_string hc
    cases e
    exact ⟨s, rfl, h3⟩)
  rw [bytesStr] at h3
  exact ⟨A, cap, l, h1, by omega, h4, h5⟩
theorem open_node {cs : List Value} (h : Opn enc Tryz.prog W 81 cs) : ∃ n : PN, cs = encN n ∧ NodeOk W n := by
  obtain ⟨hl, hf⟩ := Opn.fields Tryz.underlying81 h
  rw [cellsNode] at hl
  match cs, hl with
  | [c0, c1, c2, c3, c4, c5], _ =>
    have g0 : Opn enc Tryz.prog W 3 (([c0, c1, c2, c3, c4, c5].drop 0).take (Tryz.prog.cellsOf 3)) := hf 0 _ rfl
    rw [cellsInt] at g0
    have g1 : Opn enc Tryz.prog W 9 (([c0, c1, c2, c3, c4, c5].drop 1).take (Tryz.prog.cellsOf 9)) := hf 1 _ rfl
    rw [cellsStr] at g1
    have g2 : Opn enc Tryz.prog W 3 (([c0, c1, c2, c3, c4, c5].drop 2).take (Tryz.prog.cellsOf 3)) := hf 2 _ rfl
    rw [cellsInt] at g2
    have g3 : Opn enc Tryz.prog W 3 (([c0, c1, c2, c3, c4, c5].drop 3).take (Tryz.prog.cellsOf 3)) := hf 3 _ rfl
    rw [cellsInt] at g3
    have g4 : Opn enc Tryz.prog W 37 (([c0, c1, c2, c3, c4, c5].drop 4).take (Tryz.prog.cellsOf 37)) := hf 4 _ rfl
    rw [cellsStrs] at g4
    have g5 : Opn enc Tryz.prog W 37 (([c0, c1, c2, c3, c4, c5].drop 5).take (Tryz.prog.cellsOf 37)) := hf 5 _ rfl
    rw [cellsStrs] at g5
    obtain ⟨n0, rfl, k0⟩ := Opn.int (c := c0) Tryz.underlying3 g0
    obtain ⟨n1, rfl, k1⟩ := open_string (c := c1) g1
    obtain ⟨n2, rfl, k2⟩ := Opn.int (c := c2) Tryz.underlying3 g2
    obtain ⟨n3, rfl, k3⟩ := Opn.int (c := c3) Tryz.underlying3 g3
    obtain ⟨A4, p4, l4, rfl, k4, m4, s4⟩ := open_strs (c := c4) g4
    obtain ⟨A5, p5, l5, rfl, k5, m5, s5⟩ := open_strs (c := c5) g5
    exact ⟨⟨n0, n1, n2, n3, A4, p4, l4, A5, p5, l5⟩, rfl, ⟨inR_of k0, inR_of k2, inR_of k3, k1, k4, k5, m4, m5, s4, s5⟩⟩
instance : Inhabited PN := ⟨⟨0, ⟨#[]⟩, 0, 0, none, 0, [], none, 0, []⟩⟩
theorem open_path {c : Value} (h : Opn enc Tryz.prog W 23 [c]) : ∃ (A : Option Addr) (cap : Nat) (p : List PN), c = .slice A p.length cap ∧ SlAt encN 6 W A p ∧ (∀ n ∈ p, NodeOk W n) ∧ p.length ≤ 140737488355328 := by
  obtain ⟨A, cap, l, h1, h2, h3, h4, h5⟩ := h.slice (en := encN) (R := NodeOk W) (size := 6) Tryz.underlying23 cellsNode (by decide) (fun _ => rfl) (fun cs hc => open_node hc)
  rw [bytesNode] at h3
  exact ⟨A, cap, l, h1, h5, h4, by omega⟩
end
end Go.Proofs.YtajgbepghniciaaGreatDoor
