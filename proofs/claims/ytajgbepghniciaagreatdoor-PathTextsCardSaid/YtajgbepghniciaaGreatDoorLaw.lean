/- The law PathTexts: its own functions. -/
import Derived.Test.YtajgbepghniciaaGreatDoorRef22d
import Derived.Test.YtajgbepghniciaaGreatDoorO
namespace Go.Proofs.YtajgbepghniciaaGreatDoor
open Go.RowKit V
set_option maxRecDepth 100000

theorem num_any (x : Int) (w : World) : Gv Tryz.prog 10 [.int .i64 x] w fun v w' => v = .int .i64 x ∧ w' = w := by
  refine gv (by kernel_rfl) Tryz.func10 rfl Tryz.ntmps10 rfl ?_; conv => whnf
  exact ⟨rfl, rfl⟩

theorem few_any (p : List PN) (A : Option Addr) (c : Nat) (w : World) (hA : SlAt encN 6 w A p) (hN : ∀ n ∈ p, NodeOk w n) (hl : p.length ≤ 140737488355328) :
    Gv Tryz.prog 6 [.slice A p.length c] w fun v w' => (∃ b, v = .bool b ∧ (b = true → (∀ n ∈ p, n.f.length + n.v.length ≤ 100000) ∧ p.length ≤ 100000)) ∧ Ext w w' := by
  refine gv (by kernel_rfl) Tryz.func6 rfl Tryz.ntmps6 rfl ?_; conv => whnf
  refine loopV (fun x : Nat × Int => [(0, .slice A p.length c), (3, .int .i64 x.2), (4, .int .i64 x.1)])
    (fun x w2 => x.1 ≤ p.length ∧ x.2 ≤ 100000 ∧ -1000000000000000 ≤ x.2 ∧ (0 ≤ x.2 → x.1 + x.2 ≤ 100000 ∧ ∀ n ∈ p.take x.1, n.f.length + n.v.length ≤ 100000) ∧ Ext w w2) (fun x => p.length - x.1) (0, 100000) ⟨rfl, rfl, rfl, trivial⟩ ⟨by simp, by simp, by simp, fun _ => ⟨by simp, by simp⟩, Ext.refl _⟩ ?_
  rintro ⟨i, left⟩ w2 ρ' ⟨h1, h2, h2', h3, he⟩
  simp only at h1 h2 h2' h3
  dsimp only
  (conv => whnf)
  (repeat' (first
      | (refine Obl.mk ⟨by omega, by omega⟩ ?_; conv => whnf)
      | (refine Obl.mk ⟨by omega, by omega, ⟨by omega, by omega⟩⟩ ?_; conv => whnf)
      | ((with_reducible refine Tst.tt ?_); conv => whnf)
      | ((with_reducible refine Tst.ff ?_); conv => whnf)
      | ((with_reducible refine Tst.dec (fun _ => ?_) (fun _ => ?_)) <;> first | (exfalso; omega) | (conv => whnf))
      | ((with_reducible refine Tst.not ?_))
      | (refine Wit.conv ⟨by omega, by omega⟩ ?_; conv => whnf)
      | ((with_reducible refine IdxV.nat (by omega) ?_); conv => whnf)
      | ((with_reducible refine SameW.mk rfl ?_); conv => whnf)
      | (refine LoadV.mem (i := 0) (by assumption) rfl rfl ?_; conv => whnf)
      | (refine LoadV.mem (i := 1) (by assumption) rfl rfl ?_; conv => whnf)
      | (refine LoadV.mem (i := 2) (by assumption) rfl rfl ?_; conv => whnf)
      | ((with_reducible refine Tst.beqT ?_))
      | ((with_reducible refine Tst.beqF ?_))
      | (refine Tst.yes rfl ?_; conv => whnf)
      | (refine Tst.no rfl ?_; conv => whnf)))
  · have hil : i < p.length := by omega
    obtain ⟨n, hn⟩ : ∃ n, n = p[i] := ⟨_, rfl⟩
    have hnok : NodeOk w n := hn ▸ hN _ (List.getElem_mem hil)
    have hfl := hnok.fl
    have hvl := hnok.vl
    refine DrawV.quiet (by kernel_rfl) (by kernel_rfl) ?_; conv => whnf
    (repeat' (first
      | (refine Obl.mk ⟨by omega, by omega⟩ ?_; conv => whnf)
      | (refine Obl.mk ⟨by omega, by omega, ⟨by omega, by omega⟩⟩ ?_; conv => whnf)
      | ((with_reducible refine Tst.tt ?_); conv => whnf)
      | ((with_reducible refine Tst.ff ?_); conv => whnf)
      | ((with_reducible refine Tst.dec (fun _ => ?_) (fun _ => ?_)) <;> first | (exfalso; omega) | (conv => whnf))
      | ((with_reducible refine Tst.not ?_))
      | (refine Wit.conv ⟨by omega, by omega⟩ ?_; conv => whnf)
      | ((with_reducible refine IdxV.nat (by omega) ?_); conv => whnf)
      | ((with_reducible refine SameW.mk rfl ?_); conv => whnf)
      | (refine LoadV.mem (i := 0) (by assumption) rfl rfl ?_; conv => whnf)
      | (refine LoadV.mem (i := 1) (by assumption) rfl rfl ?_; conv => whnf)
      | (refine LoadV.mem (i := 2) (by assumption) rfl rfl ?_; conv => whnf)
      | ((with_reducible refine Tst.beqT ?_))
      | ((with_reducible refine Tst.beqF ?_))
      | (refine Tst.yes rfl ?_; conv => whnf)
      | (refine Tst.no rfl ?_; conv => whnf)))
    refine ElemV.sl (hA.ext he.drew) rfl i rfl hil ?_
    intro eb off hc
    rw [← hn] at hc
    (conv => whnf)
    (repeat' (first
      | (refine Obl.mk ⟨by omega, by omega⟩ ?_; conv => whnf)
      | (refine Obl.mk ⟨by omega, by omega, ⟨by omega, by omega⟩⟩ ?_; conv => whnf)
      | ((with_reducible refine Tst.tt ?_); conv => whnf)
      | ((with_reducible refine Tst.ff ?_); conv => whnf)
      | ((with_reducible refine Tst.dec (fun _ => ?_) (fun _ => ?_)) <;> first | (exfalso; omega) | (conv => whnf))
      | ((with_reducible refine Tst.not ?_))
      | (refine Wit.conv ⟨by omega, by omega⟩ ?_; conv => whnf)
      | ((with_reducible refine IdxV.nat (by omega) ?_); conv => whnf)
      | ((with_reducible refine SameW.mk rfl ?_); conv => whnf)
      | (refine LoadV.mem (i := 0) (by assumption) rfl rfl ?_; conv => whnf)
      | (refine LoadV.mem (i := 1) (by assumption) rfl rfl ?_; conv => whnf)
      | (refine LoadV.mem (i := 2) (by assumption) rfl rfl ?_; conv => whnf)
      | ((with_reducible refine Tst.beqT ?_))
      | ((with_reducible refine Tst.beqF ?_))
      | (refine Tst.yes rfl ?_; conv => whnf)
      | (refine Tst.no rfl ?_; conv => whnf)))
    refine LoadV.cells hc 4 rfl ?_
    (conv => whnf)
    (repeat' (first
      | (refine Obl.mk ⟨by omega, by omega⟩ ?_; conv => whnf)
      | (refine Obl.mk ⟨by omega, by omega, ⟨by omega, by omega⟩⟩ ?_; conv => whnf)
      | ((with_reducible refine Tst.tt ?_); conv => whnf)
      | ((with_reducible refine Tst.ff ?_); conv => whnf)
      | ((with_reducible refine Tst.dec (fun _ => ?_) (fun _ => ?_)) <;> first | (exfalso; omega) | (conv => whnf))
      | ((with_reducible refine Tst.not ?_))
      | (refine Wit.conv ⟨by omega, by omega⟩ ?_; conv => whnf)
      | ((with_reducible refine IdxV.nat (by omega) ?_); conv => whnf)
      | ((with_reducible refine SameW.mk rfl ?_); conv => whnf)
      | (refine LoadV.mem (i := 0) (by assumption) rfl rfl ?_; conv => whnf)
      | (refine LoadV.mem (i := 1) (by assumption) rfl rfl ?_; conv => whnf)
      | (refine LoadV.mem (i := 2) (by assumption) rfl rfl ?_; conv => whnf)
      | ((with_reducible refine Tst.beqT ?_))
      | ((with_reducible refine Tst.beqF ?_))
      | (refine Tst.yes rfl ?_; conv => whnf)
      | (refine Tst.no rfl ?_; conv => whnf)))
    refine ElemV.sl (hA.ext he.drew) rfl i rfl hil ?_
    intro eb off hc
    rw [← hn] at hc
    (conv => whnf)
    (repeat' (first
      | (refine Obl.mk ⟨by omega, by omega⟩ ?_; conv => whnf)
      | (refine Obl.mk ⟨by omega, by omega, ⟨by omega, by omega⟩⟩ ?_; conv => whnf)
      | ((with_reducible refine Tst.tt ?_); conv => whnf)
      | ((with_reducible refine Tst.ff ?_); conv => whnf)
      | ((with_reducible refine Tst.dec (fun _ => ?_) (fun _ => ?_)) <;> first | (exfalso; omega) | (conv => whnf))
      | ((with_reducible refine Tst.not ?_))
      | (refine Wit.conv ⟨by omega, by omega⟩ ?_; conv => whnf)
      | ((with_reducible refine IdxV.nat (by omega) ?_); conv => whnf)
      | ((with_reducible refine SameW.mk rfl ?_); conv => whnf)
      | (refine LoadV.mem (i := 0) (by assumption) rfl rfl ?_; conv => whnf)
      | (refine LoadV.mem (i := 1) (by assumption) rfl rfl ?_; conv => whnf)
      | (refine LoadV.mem (i := 2) (by assumption) rfl rfl ?_; conv => whnf)
      | ((with_reducible refine Tst.beqT ?_))
      | ((with_reducible refine Tst.beqF ?_))
      | (refine Tst.yes rfl ?_; conv => whnf)
      | (refine Tst.no rfl ?_; conv => whnf)))
    refine LoadV.cells hc 5 rfl ?_
    (conv => whnf)
    (repeat' (first
      | (refine Obl.mk ⟨by omega, by omega⟩ ?_; conv => whnf)
      | (refine Obl.mk ⟨by omega, by omega, ⟨by omega, by omega⟩⟩ ?_; conv => whnf)
      | ((with_reducible refine Tst.tt ?_); conv => whnf)
      | ((with_reducible refine Tst.ff ?_); conv => whnf)
      | ((with_reducible refine Tst.dec (fun _ => ?_) (fun _ => ?_)) <;> first | (exfalso; omega) | (conv => whnf))
      | ((with_reducible refine Tst.not ?_))
      | (refine Wit.conv ⟨by omega, by omega⟩ ?_; conv => whnf)
      | ((with_reducible refine IdxV.nat (by omega) ?_); conv => whnf)
      | ((with_reducible refine SameW.mk rfl ?_); conv => whnf)
      | (refine LoadV.mem (i := 0) (by assumption) rfl rfl ?_; conv => whnf)
      | (refine LoadV.mem (i := 1) (by assumption) rfl rfl ?_; conv => whnf)
      | (refine LoadV.mem (i := 2) (by assumption) rfl rfl ?_; conv => whnf)
      | ((with_reducible refine Tst.beqT ?_))
      | ((with_reducible refine Tst.beqF ?_))
      | (refine Tst.yes rfl ?_; conv => whnf)
      | (refine Tst.no rfl ?_; conv => whnf)))
    obtain ⟨h4, h5⟩ := h3 (by omega)
    refine ⟨(i + 1, left - 1 - n.f.length - n.v.length), ⟨rfl, rfl, rfl, trivial⟩, ⟨by simp only; omega, by simp only; omega, by simp only; omega, fun h => ⟨by simp only at h ⊢; omega, ?_⟩, he.drew⟩, by simp only; omega⟩
    simp only at h
    intro m hm
    rw [List.take_succ_eq_append_getElem hil, List.mem_append] at hm
    rcases hm with hm | hm
    · exact h5 m hm
    · simp at hm; rw [hm, ← hn]; omega
  all_goals
    refine ⟨⟨_, rfl, fun h => ?_⟩, he⟩
    have h := of_decide_eq_true h
    obtain ⟨h4, h5⟩ := h3 (by omega)
    rw [List.take_of_length_le (by omega)] at h5
    exact ⟨h5, by omega⟩

theorem sameTexts_any (l : List ByteArray) (A B : Option Addr) (c d k : Nat) (w : World) (hk : k = l.length) (hA : SlAt encS 1 w A l) (hB : SlAt encS 1 w B l) (hl : l.length ≤ 140737488355328) :
    Gv Tryz.prog 131 [.slice A l.length c, .slice B k d] w fun v w' => v = .bool true ∧ Ext w w' := by
  subst hk
  refine gv (by kernel_rfl) Tryz.func131 rfl Tryz.ntmps131 rfl ?_; conv => whnf
  (repeat' (first
      | (refine Obl.mk ⟨by omega, by omega⟩ ?_; conv => whnf)
      | (refine Obl.mk ⟨by omega, by omega, ⟨by omega, by omega⟩⟩ ?_; conv => whnf)
      | ((with_reducible refine Tst.tt ?_); conv => whnf)
      | ((with_reducible refine Tst.ff ?_); conv => whnf)
      | ((with_reducible refine Tst.dec (fun _ => ?_) (fun _ => ?_)) <;> first | (exfalso; omega) | (conv => whnf))
      | ((with_reducible refine Tst.not ?_))
      | (refine Wit.conv ⟨by omega, by omega⟩ ?_; conv => whnf)
      | ((with_reducible refine IdxV.nat (by omega) ?_); conv => whnf)
      | ((with_reducible refine SameW.mk rfl ?_); conv => whnf)
      | (refine LoadV.mem (i := 0) (by assumption) rfl rfl ?_; conv => whnf)
      | (refine LoadV.mem (i := 1) (by assumption) rfl rfl ?_; conv => whnf)
      | (refine LoadV.mem (i := 2) (by assumption) rfl rfl ?_; conv => whnf)
      | ((with_reducible refine Tst.beqT ?_))
      | ((with_reducible refine Tst.beqF ?_))
      | (refine Tst.yes rfl ?_; conv => whnf)
      | (refine Tst.no rfl ?_; conv => whnf)))
  refine loopV (fun i : Nat => [(0, .slice A l.length c), (1, .slice B l.length d), (5, .int .i64 i)]) (fun i w2 => i ≤ l.length ∧ Ext w w2) (fun i => l.length - i) 0 ⟨rfl, rfl, rfl, trivial⟩ ⟨by omega, Ext.refl _⟩ ?_
  rintro i w2 ρ' ⟨hi, he⟩
  (conv => whnf)
  (repeat' (first
      | (refine Obl.mk ⟨by omega, by omega⟩ ?_; conv => whnf)
      | (refine Obl.mk ⟨by omega, by omega, ⟨by omega, by omega⟩⟩ ?_; conv => whnf)
      | ((with_reducible refine Tst.tt ?_); conv => whnf)
      | ((with_reducible refine Tst.ff ?_); conv => whnf)
      | ((with_reducible refine Tst.dec (fun _ => ?_) (fun _ => ?_)) <;> first | (exfalso; omega) | (conv => whnf))
      | ((with_reducible refine Tst.not ?_))
      | (refine Wit.conv ⟨by omega, by omega⟩ ?_; conv => whnf)
      | ((with_reducible refine IdxV.nat (by omega) ?_); conv => whnf)
      | ((with_reducible refine SameW.mk rfl ?_); conv => whnf)
      | (refine LoadV.mem (i := 0) (by assumption) rfl rfl ?_; conv => whnf)
      | (refine LoadV.mem (i := 1) (by assumption) rfl rfl ?_; conv => whnf)
      | (refine LoadV.mem (i := 2) (by assumption) rfl rfl ?_; conv => whnf)
      | ((with_reducible refine Tst.beqT ?_))
      | ((with_reducible refine Tst.beqF ?_))
      | (refine Tst.yes rfl ?_; conv => whnf)
      | (refine Tst.no rfl ?_; conv => whnf)))
  · have hlt : i < l.length := by omega
    refine DrawV.quiet (by kernel_rfl) (by kernel_rfl) ?_; conv => whnf
    (repeat' (first
      | (refine Obl.mk ⟨by omega, by omega⟩ ?_; conv => whnf)
      | (refine Obl.mk ⟨by omega, by omega, ⟨by omega, by omega⟩⟩ ?_; conv => whnf)
      | ((with_reducible refine Tst.tt ?_); conv => whnf)
      | ((with_reducible refine Tst.ff ?_); conv => whnf)
      | ((with_reducible refine Tst.dec (fun _ => ?_) (fun _ => ?_)) <;> first | (exfalso; omega) | (conv => whnf))
      | ((with_reducible refine Tst.not ?_))
      | (refine Wit.conv ⟨by omega, by omega⟩ ?_; conv => whnf)
      | ((with_reducible refine IdxV.nat (by omega) ?_); conv => whnf)
      | ((with_reducible refine SameW.mk rfl ?_); conv => whnf)
      | (refine LoadV.mem (i := 0) (by assumption) rfl rfl ?_; conv => whnf)
      | (refine LoadV.mem (i := 1) (by assumption) rfl rfl ?_; conv => whnf)
      | (refine LoadV.mem (i := 2) (by assumption) rfl rfl ?_; conv => whnf)
      | ((with_reducible refine Tst.beqT ?_))
      | ((with_reducible refine Tst.beqF ?_))
      | (refine Tst.yes rfl ?_; conv => whnf)
      | (refine Tst.no rfl ?_; conv => whnf)))
    refine ElemV.sl (hA.ext he.drew) rfl i rfl hlt ?_
    intro eb off hc
    (conv => whnf)
    (repeat' (first
      | (refine Obl.mk ⟨by omega, by omega⟩ ?_; conv => whnf)
      | (refine Obl.mk ⟨by omega, by omega, ⟨by omega, by omega⟩⟩ ?_; conv => whnf)
      | ((with_reducible refine Tst.tt ?_); conv => whnf)
      | ((with_reducible refine Tst.ff ?_); conv => whnf)
      | ((with_reducible refine Tst.dec (fun _ => ?_) (fun _ => ?_)) <;> first | (exfalso; omega) | (conv => whnf))
      | ((with_reducible refine Tst.not ?_))
      | (refine Wit.conv ⟨by omega, by omega⟩ ?_; conv => whnf)
      | ((with_reducible refine IdxV.nat (by omega) ?_); conv => whnf)
      | ((with_reducible refine SameW.mk rfl ?_); conv => whnf)
      | (refine LoadV.mem (i := 0) (by assumption) rfl rfl ?_; conv => whnf)
      | (refine LoadV.mem (i := 1) (by assumption) rfl rfl ?_; conv => whnf)
      | (refine LoadV.mem (i := 2) (by assumption) rfl rfl ?_; conv => whnf)
      | ((with_reducible refine Tst.beqT ?_))
      | ((with_reducible refine Tst.beqF ?_))
      | (refine Tst.yes rfl ?_; conv => whnf)
      | (refine Tst.no rfl ?_; conv => whnf)))
    refine LoadV.cell0 hc ?_
    (conv => whnf)
    (repeat' (first
      | (refine Obl.mk ⟨by omega, by omega⟩ ?_; conv => whnf)
      | (refine Obl.mk ⟨by omega, by omega, ⟨by omega, by omega⟩⟩ ?_; conv => whnf)
      | ((with_reducible refine Tst.tt ?_); conv => whnf)
      | ((with_reducible refine Tst.ff ?_); conv => whnf)
      | ((with_reducible refine Tst.dec (fun _ => ?_) (fun _ => ?_)) <;> first | (exfalso; omega) | (conv => whnf))
      | ((with_reducible refine Tst.not ?_))
      | (refine Wit.conv ⟨by omega, by omega⟩ ?_; conv => whnf)
      | ((with_reducible refine IdxV.nat (by omega) ?_); conv => whnf)
      | ((with_reducible refine SameW.mk rfl ?_); conv => whnf)
      | (refine LoadV.mem (i := 0) (by assumption) rfl rfl ?_; conv => whnf)
      | (refine LoadV.mem (i := 1) (by assumption) rfl rfl ?_; conv => whnf)
      | (refine LoadV.mem (i := 2) (by assumption) rfl rfl ?_; conv => whnf)
      | ((with_reducible refine Tst.beqT ?_))
      | ((with_reducible refine Tst.beqF ?_))
      | (refine Tst.yes rfl ?_; conv => whnf)
      | (refine Tst.no rfl ?_; conv => whnf)))
    refine ElemV.sl (hB.ext he.drew) rfl i rfl hlt ?_
    intro eb2 off2 hc2
    (conv => whnf)
    (repeat' (first
      | (refine Obl.mk ⟨by omega, by omega⟩ ?_; conv => whnf)
      | (refine Obl.mk ⟨by omega, by omega, ⟨by omega, by omega⟩⟩ ?_; conv => whnf)
      | ((with_reducible refine Tst.tt ?_); conv => whnf)
      | ((with_reducible refine Tst.ff ?_); conv => whnf)
      | ((with_reducible refine Tst.dec (fun _ => ?_) (fun _ => ?_)) <;> first | (exfalso; omega) | (conv => whnf))
      | ((with_reducible refine Tst.not ?_))
      | (refine Wit.conv ⟨by omega, by omega⟩ ?_; conv => whnf)
      | ((with_reducible refine IdxV.nat (by omega) ?_); conv => whnf)
      | ((with_reducible refine SameW.mk rfl ?_); conv => whnf)
      | (refine LoadV.mem (i := 0) (by assumption) rfl rfl ?_; conv => whnf)
      | (refine LoadV.mem (i := 1) (by assumption) rfl rfl ?_; conv => whnf)
      | (refine LoadV.mem (i := 2) (by assumption) rfl rfl ?_; conv => whnf)
      | ((with_reducible refine Tst.beqT ?_))
      | ((with_reducible refine Tst.beqF ?_))
      | (refine Tst.yes rfl ?_; conv => whnf)
      | (refine Tst.no rfl ?_; conv => whnf)))
    refine LoadV.cell0 hc2 ?_
    (conv => whnf)
    (repeat' (first
      | (refine Obl.mk ⟨by omega, by omega⟩ ?_; conv => whnf)
      | (refine Obl.mk ⟨by omega, by omega, ⟨by omega, by omega⟩⟩ ?_; conv => whnf)
      | ((with_reducible refine Tst.tt ?_); conv => whnf)
      | ((with_reducible refine Tst.ff ?_); conv => whnf)
      | ((with_reducible refine Tst.dec (fun _ => ?_) (fun _ => ?_)) <;> first | (exfalso; omega) | (conv => whnf))
      | ((with_reducible refine Tst.not ?_))
      | (refine Wit.conv ⟨by omega, by omega⟩ ?_; conv => whnf)
      | ((with_reducible refine IdxV.nat (by omega) ?_); conv => whnf)
      | ((with_reducible refine SameW.mk rfl ?_); conv => whnf)
      | (refine LoadV.mem (i := 0) (by assumption) rfl rfl ?_; conv => whnf)
      | (refine LoadV.mem (i := 1) (by assumption) rfl rfl ?_; conv => whnf)
      | (refine LoadV.mem (i := 2) (by assumption) rfl rfl ?_; conv => whnf)
      | ((with_reducible refine Tst.beqT ?_))
      | ((with_reducible refine Tst.beqF ?_))
      | (refine Tst.yes rfl ?_; conv => whnf)
      | (refine Tst.no rfl ?_; conv => whnf)))
    refine Tst.yes (seq_iff.2 rfl) ?_
    (conv => whnf)
    (repeat' (first
      | (refine Obl.mk ⟨by omega, by omega⟩ ?_; conv => whnf)
      | (refine Obl.mk ⟨by omega, by omega, ⟨by omega, by omega⟩⟩ ?_; conv => whnf)
      | ((with_reducible refine Tst.tt ?_); conv => whnf)
      | ((with_reducible refine Tst.ff ?_); conv => whnf)
      | ((with_reducible refine Tst.dec (fun _ => ?_) (fun _ => ?_)) <;> first | (exfalso; omega) | (conv => whnf))
      | ((with_reducible refine Tst.not ?_))
      | (refine Wit.conv ⟨by omega, by omega⟩ ?_; conv => whnf)
      | ((with_reducible refine IdxV.nat (by omega) ?_); conv => whnf)
      | ((with_reducible refine SameW.mk rfl ?_); conv => whnf)
      | (refine LoadV.mem (i := 0) (by assumption) rfl rfl ?_; conv => whnf)
      | (refine LoadV.mem (i := 1) (by assumption) rfl rfl ?_; conv => whnf)
      | (refine LoadV.mem (i := 2) (by assumption) rfl rfl ?_; conv => whnf)
      | ((with_reducible refine Tst.beqT ?_))
      | ((with_reducible refine Tst.beqF ?_))
      | (refine Tst.yes rfl ?_; conv => whnf)
      | (refine Tst.no rfl ?_; conv => whnf)))
    exact ⟨i + 1, ⟨rfl, rfl, rfl, trivial⟩, ⟨by omega, he.drew⟩, by omega⟩
  · exact ⟨rfl, he⟩

/-- a node with the same parts, its lists elsewhere -/
structure SameN (n m : PN) : Prop where
  op : m.op = n.op
  iri : m.iri = n.iri
  a : m.a = n.a
  b : m.b = n.b
  f : m.f = n.f
  v : m.v = n.v
def nodeV (n : PN) : Value := .agg #[.int .i64 n.op, .string n.iri, .int .i64 n.a, .int .i64 n.b, .slice n.fA n.f.length n.fc, .slice n.vA n.v.length n.vc]
theorem sameNode_any (n m : PN) (w : World) (hs : SameN n m) (hn : NodeOk w n) (hm : NodeOk w m) :
    Gv Tryz.prog 80 [nodeV m, nodeV n] w fun v w' => v = .bool true ∧ Ext w w' := by
  have hfl := hn.fl
  have hvl := hn.vl
  obtain ⟨o1, o2, o3, o4, o5, o6⟩ := hs
  have hF := fun w' (he : Ext w w') => sameTexts_any m.f m.fA n.fA m.fc n.fc n.f.length w' (by rw [o5]) (hm.fA.ext he) (o5 ▸ hn.fA.ext he) (by rw [o5]; exact hfl)
  have hV := fun w' (he : Ext w w') => sameTexts_any m.v m.vA n.vA m.vc n.vc n.v.length w' (by rw [o6]) (hm.vA.ext he) (o6 ▸ hn.vA.ext he) (by rw [o6]; exact hvl)
  refine gv (by kernel_rfl) Tryz.func80 rfl Tryz.ntmps80 rfl ?_; conv => whnf
  refine NewV.mem (Mem.nil w) ?_
  intro b1 w1 hm1
  (conv => whnf)
  refine NewV.mem hm1 ?_
  intro b2 w2 hm2
  (conv => whnf)
  (repeat' (first
      | (refine Obl.mk ⟨by omega, by omega⟩ ?_; conv => whnf)
      | (refine Obl.mk ⟨by omega, by omega, ⟨by omega, by omega⟩⟩ ?_; conv => whnf)
      | ((with_reducible refine Tst.tt ?_); conv => whnf)
      | ((with_reducible refine Tst.ff ?_); conv => whnf)
      | ((with_reducible refine Tst.dec (fun _ => ?_) (fun _ => ?_)) <;> first | (exfalso; omega) | (conv => whnf))
      | ((with_reducible refine Tst.not ?_))
      | (refine Wit.conv ⟨by omega, by omega⟩ ?_; conv => whnf)
      | ((with_reducible refine IdxV.nat (by omega) ?_); conv => whnf)
      | ((with_reducible refine SameW.mk rfl ?_); conv => whnf)
      | (refine LoadV.mem (i := 0) (by assumption) rfl rfl ?_; conv => whnf)
      | (refine LoadV.mem (i := 1) (by assumption) rfl rfl ?_; conv => whnf)
      | (refine LoadV.mem (i := 2) (by assumption) rfl rfl ?_; conv => whnf)
      | ((with_reducible refine Tst.beqT ?_))
      | ((with_reducible refine Tst.beqF ?_))
      | (refine Tst.yes rfl ?_; conv => whnf)
      | (refine Tst.no rfl ?_; conv => whnf)))
  refine Tst.yes (seq_iff.2 o2) ?_
  (conv => whnf)
  (repeat' (first
      | (refine Obl.mk ⟨by omega, by omega⟩ ?_; conv => whnf)
      | (refine Obl.mk ⟨by omega, by omega, ⟨by omega, by omega⟩⟩ ?_; conv => whnf)
      | ((with_reducible refine Tst.tt ?_); conv => whnf)
      | ((with_reducible refine Tst.ff ?_); conv => whnf)
      | ((with_reducible refine Tst.dec (fun _ => ?_) (fun _ => ?_)) <;> first | (exfalso; omega) | (conv => whnf))
      | ((with_reducible refine Tst.not ?_))
      | (refine Wit.conv ⟨by omega, by omega⟩ ?_; conv => whnf)
      | ((with_reducible refine IdxV.nat (by omega) ?_); conv => whnf)
      | ((with_reducible refine SameW.mk rfl ?_); conv => whnf)
      | (refine LoadV.mem (i := 0) (by assumption) rfl rfl ?_; conv => whnf)
      | (refine LoadV.mem (i := 1) (by assumption) rfl rfl ?_; conv => whnf)
      | (refine LoadV.mem (i := 2) (by assumption) rfl rfl ?_; conv => whnf)
      | ((with_reducible refine Tst.beqT ?_))
      | ((with_reducible refine Tst.beqF ?_))
      | (refine Tst.yes rfl ?_; conv => whnf)
      | (refine Tst.no rfl ?_; conv => whnf)))
  refine CallV.of (hF w2 hm2.ext) ?_
  rintro v w3 ⟨rfl, he3⟩
  have hm3 := hm2.call he3
  (conv => whnf)
  (repeat' (first
      | (refine Obl.mk ⟨by omega, by omega⟩ ?_; conv => whnf)
      | (refine Obl.mk ⟨by omega, by omega, ⟨by omega, by omega⟩⟩ ?_; conv => whnf)
      | ((with_reducible refine Tst.tt ?_); conv => whnf)
      | ((with_reducible refine Tst.ff ?_); conv => whnf)
      | ((with_reducible refine Tst.dec (fun _ => ?_) (fun _ => ?_)) <;> first | (exfalso; omega) | (conv => whnf))
      | ((with_reducible refine Tst.not ?_))
      | (refine Wit.conv ⟨by omega, by omega⟩ ?_; conv => whnf)
      | ((with_reducible refine IdxV.nat (by omega) ?_); conv => whnf)
      | ((with_reducible refine SameW.mk rfl ?_); conv => whnf)
      | (refine LoadV.mem (i := 0) (by assumption) rfl rfl ?_; conv => whnf)
      | (refine LoadV.mem (i := 1) (by assumption) rfl rfl ?_; conv => whnf)
      | (refine LoadV.mem (i := 2) (by assumption) rfl rfl ?_; conv => whnf)
      | ((with_reducible refine Tst.beqT ?_))
      | ((with_reducible refine Tst.beqF ?_))
      | (refine Tst.yes rfl ?_; conv => whnf)
      | (refine Tst.no rfl ?_; conv => whnf)))
  refine CallV.of (hV w3 hm3.ext) ?_
  rintro v w4 ⟨rfl, he4⟩
  (conv => whnf)
  (repeat' (first
      | (refine Obl.mk ⟨by omega, by omega⟩ ?_; conv => whnf)
      | (refine Obl.mk ⟨by omega, by omega, ⟨by omega, by omega⟩⟩ ?_; conv => whnf)
      | ((with_reducible refine Tst.tt ?_); conv => whnf)
      | ((with_reducible refine Tst.ff ?_); conv => whnf)
      | ((with_reducible refine Tst.dec (fun _ => ?_) (fun _ => ?_)) <;> first | (exfalso; omega) | (conv => whnf))
      | ((with_reducible refine Tst.not ?_))
      | (refine Wit.conv ⟨by omega, by omega⟩ ?_; conv => whnf)
      | ((with_reducible refine IdxV.nat (by omega) ?_); conv => whnf)
      | ((with_reducible refine SameW.mk rfl ?_); conv => whnf)
      | (refine LoadV.mem (i := 0) (by assumption) rfl rfl ?_; conv => whnf)
      | (refine LoadV.mem (i := 1) (by assumption) rfl rfl ?_; conv => whnf)
      | (refine LoadV.mem (i := 2) (by assumption) rfl rfl ?_; conv => whnf)
      | ((with_reducible refine Tst.beqT ?_))
      | ((with_reducible refine Tst.beqF ?_))
      | (refine Tst.yes rfl ?_; conv => whnf)
      | (refine Tst.no rfl ?_; conv => whnf)))
  exact ⟨rfl, hm3.ext.trans he4⟩

theorem samePath_any (p q : List PN) (A B : Option Addr) (c d : Nat) (w : World) (hlen : q.length = p.length) (hs : ∀ i (h : i < p.length), SameN p[i] (q[i]'(hlen ▸ h))) (hA : SlAt encN 6 w A p) (hB : SlAt encN 6 w B q)
    (hp : ∀ n ∈ p, NodeOk w n) (hq : ∀ n ∈ q, NodeOk w n) (hl : p.length ≤ 140737488355328) :
    Gv Tryz.prog 36 [.slice B p.length d, .slice A p.length c] w fun v w' => v = .bool true ∧ Ext w w' := by
  refine gv (by kernel_rfl) Tryz.func36 rfl Tryz.ntmps36 rfl ?_; conv => whnf
  (repeat' (first
      | (refine Obl.mk ⟨by omega, by omega⟩ ?_; conv => whnf)
      | (refine Obl.mk ⟨by omega, by omega, ⟨by omega, by omega⟩⟩ ?_; conv => whnf)
      | ((with_reducible refine Tst.tt ?_); conv => whnf)
      | ((with_reducible refine Tst.ff ?_); conv => whnf)
      | ((with_reducible refine Tst.dec (fun _ => ?_) (fun _ => ?_)) <;> first | (exfalso; omega) | (conv => whnf))
      | ((with_reducible refine Tst.not ?_))
      | (refine Wit.conv ⟨by omega, by omega⟩ ?_; conv => whnf)
      | ((with_reducible refine IdxV.nat (by omega) ?_); conv => whnf)
      | ((with_reducible refine SameW.mk rfl ?_); conv => whnf)
      | (refine LoadV.mem (i := 0) (by assumption) rfl rfl ?_; conv => whnf)
      | (refine LoadV.mem (i := 1) (by assumption) rfl rfl ?_; conv => whnf)
      | (refine LoadV.mem (i := 2) (by assumption) rfl rfl ?_; conv => whnf)
      | ((with_reducible refine Tst.beqT ?_))
      | ((with_reducible refine Tst.beqF ?_))
      | (refine Tst.yes rfl ?_; conv => whnf)
      | (refine Tst.no rfl ?_; conv => whnf)))
  refine loopV (fun i : Nat => [(0, .slice B p.length d), (1, .slice A p.length c), (5, .int .i64 i)]) (fun i w2 => i ≤ p.length ∧ Ext w w2) (fun i => p.length - i) 0 ⟨rfl, rfl, rfl, trivial⟩ ⟨by omega, Ext.refl _⟩ ?_
  rintro i w2 ρ' ⟨hi, he⟩
  (conv => whnf)
  (repeat' (first
      | (refine Obl.mk ⟨by omega, by omega⟩ ?_; conv => whnf)
      | (refine Obl.mk ⟨by omega, by omega, ⟨by omega, by omega⟩⟩ ?_; conv => whnf)
      | ((with_reducible refine Tst.tt ?_); conv => whnf)
      | ((with_reducible refine Tst.ff ?_); conv => whnf)
      | ((with_reducible refine Tst.dec (fun _ => ?_) (fun _ => ?_)) <;> first | (exfalso; omega) | (conv => whnf))
      | ((with_reducible refine Tst.not ?_))
      | (refine Wit.conv ⟨by omega, by omega⟩ ?_; conv => whnf)
      | ((with_reducible refine IdxV.nat (by omega) ?_); conv => whnf)
      | ((with_reducible refine SameW.mk rfl ?_); conv => whnf)
      | (refine LoadV.mem (i := 0) (by assumption) rfl rfl ?_; conv => whnf)
      | (refine LoadV.mem (i := 1) (by assumption) rfl rfl ?_; conv => whnf)
      | (refine LoadV.mem (i := 2) (by assumption) rfl rfl ?_; conv => whnf)
      | ((with_reducible refine Tst.beqT ?_))
      | ((with_reducible refine Tst.beqF ?_))
      | (refine Tst.yes rfl ?_; conv => whnf)
      | (refine Tst.no rfl ?_; conv => whnf)))
  · have hlt : i < p.length := by omega
    have hltq : i < q.length := by omega
    obtain ⟨ab, aoff, rfl, hac⟩ := (hA.ext he).at_ (by intro h; rw [h] at hlt; simp at hlt)
    obtain ⟨bb, boff, rfl, hbc⟩ := (hB.ext he).at_ (by intro h; rw [h] at hltq; simp at hltq)
    have hac := hac i _ (List.getElem?_eq_getElem hlt)
    have hbc := hbc i _ (List.getElem?_eq_getElem hltq)
    have hn := hp _ (List.getElem_mem hlt)
    have hm := hq _ (List.getElem_mem hltq)
    have hsn := hs i hlt
    refine DrawV.free rfl (by kernel_rfl) ?_
    (conv => whnf)
    (apply StepD.still; (· intro wd hd; (conv => whnf); (repeat (intro _ _; (conv => whnf))); (first | exact ⟨Ext.refl _, rfl⟩ | ((repeat' (first | (refine Obl.mk ⟨by omega, by omega⟩ ?_; conv => whnf) | (refine Obl.mk ⟨by omega, by omega, ⟨by omega, by omega⟩⟩ ?_; conv => whnf) | ((with_reducible refine Tst.tt ?_); conv => whnf) | ((with_reducible refine Tst.ff ?_); conv => whnf) | ((with_reducible refine Tst.dec (fun _ => ?_) (fun _ => ?_)) <;> first | (exfalso; omega) | (conv => whnf)) | ((with_reducible refine Tst.not ?_)) | (refine Wit.conv ⟨by omega, by omega⟩ ?_; conv => whnf) | ((with_reducible refine IdxV.nat (by omega) ?_); conv => whnf) | ((with_reducible refine SameW.mk rfl ?_); conv => whnf) | ((with_reducible refine Tst.beqT ?_)) | ((with_reducible refine Tst.beqF ?_)) | (refine Tst.yes rfl ?_; conv => whnf) | (refine Tst.no rfl ?_; conv => whnf))); exact ⟨Ext.refl _, rfl⟩))); (conv => whnf))
    (apply StepD.still; (· intro wd hd; (conv => whnf); (repeat (intro _ _; (conv => whnf))); (first | exact ⟨Ext.refl _, rfl⟩ | ((repeat' (first | (refine Obl.mk ⟨by omega, by omega⟩ ?_; conv => whnf) | (refine Obl.mk ⟨by omega, by omega, ⟨by omega, by omega⟩⟩ ?_; conv => whnf) | ((with_reducible refine Tst.tt ?_); conv => whnf) | ((with_reducible refine Tst.ff ?_); conv => whnf) | ((with_reducible refine Tst.dec (fun _ => ?_) (fun _ => ?_)) <;> first | (exfalso; omega) | (conv => whnf)) | ((with_reducible refine Tst.not ?_)) | (refine Wit.conv ⟨by omega, by omega⟩ ?_; conv => whnf) | ((with_reducible refine IdxV.nat (by omega) ?_); conv => whnf) | ((with_reducible refine SameW.mk rfl ?_); conv => whnf) | ((with_reducible refine Tst.beqT ?_)) | ((with_reducible refine Tst.beqF ?_)) | (refine Tst.yes rfl ?_; conv => whnf) | (refine Tst.no rfl ?_; conv => whnf))); exact ⟨Ext.refl _, rfl⟩))); (conv => whnf))
    (apply StepD.still; (· intro wd hd; (conv => whnf); (repeat' (first | (refine Obl.mk ⟨by omega, by omega⟩ ?_; conv => whnf) | (refine Obl.mk ⟨by omega, by omega, ⟨by omega, by omega⟩⟩ ?_; conv => whnf) | ((with_reducible refine Tst.tt ?_); conv => whnf) | ((with_reducible refine Tst.ff ?_); conv => whnf) | ((with_reducible refine Tst.dec (fun _ => ?_) (fun _ => ?_)) <;> first | (exfalso; omega) | (conv => whnf)) | ((with_reducible refine Tst.not ?_)) | (refine Wit.conv ⟨by omega, by omega⟩ ?_; conv => whnf) | ((with_reducible refine IdxV.nat (by omega) ?_); conv => whnf) | ((with_reducible refine SameW.mk rfl ?_); conv => whnf) | ((with_reducible refine Tst.beqT ?_)) | ((with_reducible refine Tst.beqF ?_)) | (refine Tst.yes rfl ?_; conv => whnf) | (refine Tst.no rfl ?_; conv => whnf))); refine ⟨⟨bb, boff, i, rfl, by omega, by omega, ?_⟩⟩; exact ⟨Ext.refl _, rfl⟩); (conv => whnf))
    apply StepD.still
    · intro wd hd
      (conv => whnf)
      refine LoadA.cells (hbc.ext ((Ext.refl w2).drew.trans hd)) rfl ?_
      (conv => whnf)
      exact ⟨Ext.refl _, rfl⟩
    (conv => whnf)
    (apply StepD.still; (· intro wd hd; (conv => whnf); (repeat (intro _ _; (conv => whnf))); (first | exact ⟨Ext.refl _, rfl⟩ | ((repeat' (first | (refine Obl.mk ⟨by omega, by omega⟩ ?_; conv => whnf) | (refine Obl.mk ⟨by omega, by omega, ⟨by omega, by omega⟩⟩ ?_; conv => whnf) | ((with_reducible refine Tst.tt ?_); conv => whnf) | ((with_reducible refine Tst.ff ?_); conv => whnf) | ((with_reducible refine Tst.dec (fun _ => ?_) (fun _ => ?_)) <;> first | (exfalso; omega) | (conv => whnf)) | ((with_reducible refine Tst.not ?_)) | (refine Wit.conv ⟨by omega, by omega⟩ ?_; conv => whnf) | ((with_reducible refine IdxV.nat (by omega) ?_); conv => whnf) | ((with_reducible refine SameW.mk rfl ?_); conv => whnf) | ((with_reducible refine Tst.beqT ?_)) | ((with_reducible refine Tst.beqF ?_)) | (refine Tst.yes rfl ?_; conv => whnf) | (refine Tst.no rfl ?_; conv => whnf))); exact ⟨Ext.refl _, rfl⟩))); (conv => whnf))
    (apply StepD.still; (· intro wd hd; (conv => whnf); (repeat (intro _ _; (conv => whnf))); (first | exact ⟨Ext.refl _, rfl⟩ | ((repeat' (first | (refine Obl.mk ⟨by omega, by omega⟩ ?_; conv => whnf) | (refine Obl.mk ⟨by omega, by omega, ⟨by omega, by omega⟩⟩ ?_; conv => whnf) | ((with_reducible refine Tst.tt ?_); conv => whnf) | ((with_reducible refine Tst.ff ?_); conv => whnf) | ((with_reducible refine Tst.dec (fun _ => ?_) (fun _ => ?_)) <;> first | (exfalso; omega) | (conv => whnf)) | ((with_reducible refine Tst.not ?_)) | (refine Wit.conv ⟨by omega, by omega⟩ ?_; conv => whnf) | ((with_reducible refine IdxV.nat (by omega) ?_); conv => whnf) | ((with_reducible refine SameW.mk rfl ?_); conv => whnf) | ((with_reducible refine Tst.beqT ?_)) | ((with_reducible refine Tst.beqF ?_)) | (refine Tst.yes rfl ?_; conv => whnf) | (refine Tst.no rfl ?_; conv => whnf))); exact ⟨Ext.refl _, rfl⟩))); (conv => whnf))
    (apply StepD.still; (· intro wd hd; (conv => whnf); (repeat' (first | (refine Obl.mk ⟨by omega, by omega⟩ ?_; conv => whnf) | (refine Obl.mk ⟨by omega, by omega, ⟨by omega, by omega⟩⟩ ?_; conv => whnf) | ((with_reducible refine Tst.tt ?_); conv => whnf) | ((with_reducible refine Tst.ff ?_); conv => whnf) | ((with_reducible refine Tst.dec (fun _ => ?_) (fun _ => ?_)) <;> first | (exfalso; omega) | (conv => whnf)) | ((with_reducible refine Tst.not ?_)) | (refine Wit.conv ⟨by omega, by omega⟩ ?_; conv => whnf) | ((with_reducible refine IdxV.nat (by omega) ?_); conv => whnf) | ((with_reducible refine SameW.mk rfl ?_); conv => whnf) | ((with_reducible refine Tst.beqT ?_)) | ((with_reducible refine Tst.beqF ?_)) | (refine Tst.yes rfl ?_; conv => whnf) | (refine Tst.no rfl ?_; conv => whnf))); refine ⟨⟨ab, aoff, i, rfl, by omega, by omega, ?_⟩⟩; exact ⟨Ext.refl _, rfl⟩); (conv => whnf))
    apply StepD.still
    · intro wd hd
      (conv => whnf)
      refine LoadA.cells (hac.ext ((Ext.refl w2).drew.trans hd)) rfl ?_
      (conv => whnf)
      exact ⟨Ext.refl _, rfl⟩
    (conv => whnf)
    apply StepD.still
    · intro wd hd
      (conv => whnf)
      have hx := he.trans ((Ext.refl w2).drew.trans hd)
      refine CallV.of (sameNode_any p[i] q[i] wd hsn (hn.ext hx) (hm.ext hx)) ?_
      rintro v w3 ⟨rfl, he3⟩
      exact ⟨he3, rfl⟩
    (conv => whnf)
    (apply StepD.still; (· intro wd hd; (conv => whnf); (repeat (intro _ _; (conv => whnf))); (first | exact ⟨Ext.refl _, rfl⟩ | ((repeat' (first | (refine Obl.mk ⟨by omega, by omega⟩ ?_; conv => whnf) | (refine Obl.mk ⟨by omega, by omega, ⟨by omega, by omega⟩⟩ ?_; conv => whnf) | ((with_reducible refine Tst.tt ?_); conv => whnf) | ((with_reducible refine Tst.ff ?_); conv => whnf) | ((with_reducible refine Tst.dec (fun _ => ?_) (fun _ => ?_)) <;> first | (exfalso; omega) | (conv => whnf)) | ((with_reducible refine Tst.not ?_)) | (refine Wit.conv ⟨by omega, by omega⟩ ?_; conv => whnf) | ((with_reducible refine IdxV.nat (by omega) ?_); conv => whnf) | ((with_reducible refine SameW.mk rfl ?_); conv => whnf) | ((with_reducible refine Tst.beqT ?_)) | ((with_reducible refine Tst.beqF ?_)) | (refine Tst.yes rfl ?_; conv => whnf) | (refine Tst.no rfl ?_; conv => whnf))); exact ⟨Ext.refl _, rfl⟩))); (conv => whnf))
    intro wd hd
    (conv => whnf)
    (repeat' (first
      | (refine Obl.mk ⟨by omega, by omega⟩ ?_; conv => whnf)
      | (refine Obl.mk ⟨by omega, by omega, ⟨by omega, by omega⟩⟩ ?_; conv => whnf)
      | ((with_reducible refine Tst.tt ?_); conv => whnf)
      | ((with_reducible refine Tst.ff ?_); conv => whnf)
      | ((with_reducible refine Tst.dec (fun _ => ?_) (fun _ => ?_)) <;> first | (exfalso; omega) | (conv => whnf))
      | ((with_reducible refine Tst.not ?_))
      | (refine Wit.conv ⟨by omega, by omega⟩ ?_; conv => whnf)
      | ((with_reducible refine IdxV.nat (by omega) ?_); conv => whnf)
      | ((with_reducible refine SameW.mk rfl ?_); conv => whnf)
      | (refine LoadV.mem (i := 0) (by assumption) rfl rfl ?_; conv => whnf)
      | (refine LoadV.mem (i := 1) (by assumption) rfl rfl ?_; conv => whnf)
      | (refine LoadV.mem (i := 2) (by assumption) rfl rfl ?_; conv => whnf)
      | ((with_reducible refine Tst.beqT ?_))
      | ((with_reducible refine Tst.beqF ?_))
      | (refine Tst.yes rfl ?_; conv => whnf)
      | (refine Tst.no rfl ?_; conv => whnf)))
    exact ⟨i + 1, ⟨rfl, rfl, rfl, trivial⟩, ⟨by omega, he.trans ((Ext.refl w2).drew.trans hd)⟩, by omega⟩
  · exact ⟨rfl, he⟩
end Go.Proofs.YtajgbepghniciaaGreatDoor
