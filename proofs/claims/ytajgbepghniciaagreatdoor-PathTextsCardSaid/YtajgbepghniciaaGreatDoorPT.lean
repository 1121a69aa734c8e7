/- The law PathTexts: the whole walk. -/
import Derived.Test.YtajgbepghniciaaGreatDoorBack
namespace Go.Proofs.YtajgbepghniciaaGreatDoor
open Go.RowKit V
set_option maxRecDepth 100000

theorem lent_of {p q : List PN} {w w' : World} {ob : Nat} {R : List (Nat × Obj)} (h1 : q.length = p.length) (h2 : ∀ k (h : k < p.length) (h' : k < q.length), LentN R p[k] q[k])
    (hm : Mem w w' ((ob, .cells (q.flatMap encN ++ ([Value.int .i64 77] ++ zeroN.drop 1)).toArray 81 (0, 0)) :: R)) : Lent w' ob p q :=
  ⟨h1, fun k h h' => (h2 k h h').w hm (fun x hx => List.mem_cons_of_mem _ hx), cellsAt_heap (hm.get (List.mem_cons_self ..)) (fun k v hv => by simpa using hv)⟩

theorem pathTexts_any (p : List PN) (A : Option Addr) (c : Nat) (w : World) (hA : SlAt encN 6 w A p) (hN : ∀ n ∈ p, NodeOk w n) (hl : p.length ≤ 140737488355328) :
    Gv Tryz.prog 3 [.slice A p.length c] w fun v w' => v = .bool true ∧ Ext w w' := by
  have hfew := few_any p A c w hA hN hl
  refine gv (by kernel_rfl) Tryz.func3 rfl Tryz.ntmps3 rfl ?_; conv => whnf
  refine CallV.of (hfew) ?_
  rintro v w1 ⟨⟨b, rfl, hb⟩, he1⟩
  (conv => whnf)
  cases b
  · (repeat' (first
      | (refine Obl.mk ⟨by omega, by omega⟩ ?_; conv => whnf)
      | (refine Obl.mk ⟨by omega, by omega, ⟨by omega, by omega⟩⟩ ?_; conv => whnf)
      | ((with_reducible refine Tst.tt ?_); conv => whnf)
      | ((with_reducible refine Tst.ff ?_); conv => whnf)
      | ((with_reducible refine Tst.dec (fun _ => ?_) (fun _ => ?_)) <;> first | (exfalso; omega) | (conv => whnf))
      | ((with_reducible refine Tst.not ?_))
      | (refine Wit.conv ⟨by omega, by omega⟩ ?_; conv => whnf)
      | ((with_reducible refine IdxV.nat (by omega) ?_); conv => whnf)
      | ((with_reducible refine SameW.mk rfl ?_); conv => whnf)
      | (refine LoadV.mem (i := 0) (by assumption) rfl rfl ?_; conv => whnf)
      | (refine LoadV.mem (i := 1) (by assumption) rfl rfl ?_; conv => whnf)
      | (refine LoadV.mem (i := 2) (by assumption) rfl rfl ?_; conv => whnf)
      | ((with_reducible refine Tst.beqT ?_))
      | ((with_reducible refine Tst.beqF ?_))
      | (refine Tst.yes rfl ?_; conv => whnf)
      | (refine Tst.no rfl ?_; conv => whnf)))
    exact ⟨rfl, he1⟩
  · obtain ⟨hf, hlen⟩ := hb rfl
    have hp1 : PathAt w1 A p := ⟨hA.ext he1, fun n hn => (hN n hn).ext he1, hf, hlen⟩
    (repeat' (first
      | (refine Obl.mk ⟨by omega, by omega⟩ ?_; conv => whnf)
      | (refine Obl.mk ⟨by omega, by omega, ⟨by omega, by omega⟩⟩ ?_; conv => whnf)
      | ((with_reducible refine Tst.tt ?_); conv => whnf)
      | ((with_reducible refine Tst.ff ?_); conv => whnf)
      | ((with_reducible refine Tst.dec (fun _ => ?_) (fun _ => ?_)) <;> first | (exfalso; omega) | (conv => whnf))
      | ((with_reducible refine Tst.not ?_))
      | (refine Wit.conv ⟨by omega, by omega⟩ ?_; conv => whnf)
      | ((with_reducible refine IdxV.nat (by omega) ?_); conv => whnf)
      | ((with_reducible refine SameW.mk rfl ?_); conv => whnf)
      | (refine LoadV.mem (i := 0) (by assumption) rfl rfl ?_; conv => whnf)
      | (refine LoadV.mem (i := 1) (by assumption) rfl rfl ?_; conv => whnf)
      | (refine LoadV.mem (i := 2) (by assumption) rfl rfl ?_; conv => whnf)
      | ((with_reducible refine Tst.beqT ?_))
      | ((with_reducible refine Tst.beqF ?_))
      | (refine Tst.yes rfl ?_; conv => whnf)
      | (refine Tst.no rfl ?_; conv => whnf)))
    refine CallV.of (lent_any p A c w1 hp1) ?_
    rintro v w2 ⟨ob, q, R, rfl, hq1, hq2, hm⟩
    have hL : Lent w2 ob p q := lent_of hq1 hq2 hm
    have hx2 := hm.ext
    have hS := hL.same
    obtain ⟨m, s, hs1, hs2⟩ : ∃ m s, (CheckP p → TxtR p (p.length - 1) m s ∧ m ≤ 64) ∧ (¬ CheckP p → s = bs []) := by
      by_cases hc : CheckP p
      · obtain ⟨m, s, h1, h2⟩ := hc.txt
        exact ⟨m, s, fun _ => ⟨h1, h2⟩, fun h => absurd hc h⟩
      · exact ⟨0, bs [], fun h => absurd h hc, fun _ => rfl⟩
    have hq : ∀ w', Ext w2 w' → PathAt w' (some ⟨ob, 0, none⟩) q := fun w' he => (hL.path (hp1.ext hx2)).ext he
    have htq := fun w' (he : Ext w2 w') => pathText_at q (some ⟨ob, 0, none⟩) (p.length + 1) w' (hq w' he) m s (fun h => by
      obtain ⟨h1, h2⟩ := hs1 (hS.checkP.1 h)
      rw [hq1]
      exact ⟨hS.txt h1, h2⟩) (fun h => hs2 fun h' => h (hS.checkP.2 h'))
    rw [hq1, hS.pathE] at htq
    have htp := fun w' (he : Ext w1 w') => refPathText_any p A c w' (hp1.ext he) m s hs1 hs2
    have hcq := fun w' (he : Ext w2 w') => pathCheck_any q (some ⟨ob, 0, none⟩) (p.length + 1) w' (hq w' he).sl (hq w' he).ok (by rw [hq1]; omega)
    rw [hq1, hS.pathE] at hcq
    have hcp := fun w' (he : Ext w1 w') => refPathCheck_any p A c w' (hp1.ext he).sl (hp1.ext he).ok (by omega)
    have hbk := fun w' (he : Ext w2 w') => back_any p q A c ob w' (hp1.ext (hx2.trans he)) (hL.ext he)
    (conv => whnf)
    (repeat' (first
      | (refine Obl.mk ⟨by omega, by omega⟩ ?_; conv => whnf)
      | (refine Obl.mk ⟨by omega, by omega, ⟨by omega, by omega⟩⟩ ?_; conv => whnf)
      | ((with_reducible refine Tst.tt ?_); conv => whnf)
      | ((with_reducible refine Tst.ff ?_); conv => whnf)
      | ((with_reducible refine Tst.dec (fun _ => ?_) (fun _ => ?_)) <;> first | (exfalso; omega) | (conv => whnf))
      | ((with_reducible refine Tst.not ?_))
      | (refine Wit.conv ⟨by omega, by omega⟩ ?_; conv => whnf)
      | ((with_reducible refine IdxV.nat (by omega) ?_); conv => whnf)
      | ((with_reducible refine SameW.mk rfl ?_); conv => whnf)
      | (refine LoadV.mem (i := 0) (by assumption) rfl rfl ?_; conv => whnf)
      | (refine LoadV.mem (i := 1) (by assumption) rfl rfl ?_; conv => whnf)
      | (refine LoadV.mem (i := 2) (by assumption) rfl rfl ?_; conv => whnf)
      | ((with_reducible refine Tst.beqT ?_))
      | ((with_reducible refine Tst.beqF ?_))
      | (refine Tst.yes rfl ?_; conv => whnf)
      | (refine Tst.no rfl ?_; conv => whnf)))
    refine CallV.of (htq w2 (Ext.refl w2)) ?_
    rintro v w3 ⟨rfl, he3⟩
    (conv => whnf)
    (repeat' (first
      | (refine Obl.mk ⟨by omega, by omega⟩ ?_; conv => whnf)
      | (refine Obl.mk ⟨by omega, by omega, ⟨by omega, by omega⟩⟩ ?_; conv => whnf)
      | ((with_reducible refine Tst.tt ?_); conv => whnf)
      | ((with_reducible refine Tst.ff ?_); conv => whnf)
      | ((with_reducible refine Tst.dec (fun _ => ?_) (fun _ => ?_)) <;> first | (exfalso; omega) | (conv => whnf))
      | ((with_reducible refine Tst.not ?_))
      | (refine Wit.conv ⟨by omega, by omega⟩ ?_; conv => whnf)
      | ((with_reducible refine IdxV.nat (by omega) ?_); conv => whnf)
      | ((with_reducible refine SameW.mk rfl ?_); conv => whnf)
      | (refine LoadV.mem (i := 0) (by assumption) rfl rfl ?_; conv => whnf)
      | (refine LoadV.mem (i := 1) (by assumption) rfl rfl ?_; conv => whnf)
      | (refine LoadV.mem (i := 2) (by assumption) rfl rfl ?_; conv => whnf)
      | ((with_reducible refine Tst.beqT ?_))
      | ((with_reducible refine Tst.beqF ?_))
      | (refine Tst.yes rfl ?_; conv => whnf)
      | (refine Tst.no rfl ?_; conv => whnf)))
    refine CallV.of (htp w3 (hx2.trans he3)) ?_
    rintro v w4 ⟨rfl, he4⟩
    (conv => whnf)
    (repeat' (first
      | (refine Obl.mk ⟨by omega, by omega⟩ ?_; conv => whnf)
      | (refine Obl.mk ⟨by omega, by omega, ⟨by omega, by omega⟩⟩ ?_; conv => whnf)
      | ((with_reducible refine Tst.tt ?_); conv => whnf)
      | ((with_reducible refine Tst.ff ?_); conv => whnf)
      | ((with_reducible refine Tst.dec (fun _ => ?_) (fun _ => ?_)) <;> first | (exfalso; omega) | (conv => whnf))
      | ((with_reducible refine Tst.not ?_))
      | (refine Wit.conv ⟨by omega, by omega⟩ ?_; conv => whnf)
      | ((with_reducible refine IdxV.nat (by omega) ?_); conv => whnf)
      | ((with_reducible refine SameW.mk rfl ?_); conv => whnf)
      | (refine LoadV.mem (i := 0) (by assumption) rfl rfl ?_; conv => whnf)
      | (refine LoadV.mem (i := 1) (by assumption) rfl rfl ?_; conv => whnf)
      | (refine LoadV.mem (i := 2) (by assumption) rfl rfl ?_; conv => whnf)
      | ((with_reducible refine Tst.beqT ?_))
      | ((with_reducible refine Tst.beqF ?_))
      | (refine Tst.yes rfl ?_; conv => whnf)
      | (refine Tst.no rfl ?_; conv => whnf)))
    have hx4 := he3.trans he4
    refine CallV.of (hcq w4 hx4) ?_
    rintro v w5 ⟨rfl, he5⟩
    (conv => whnf)
    (repeat' (first
      | (refine Obl.mk ⟨by omega, by omega⟩ ?_; conv => whnf)
      | (refine Obl.mk ⟨by omega, by omega, ⟨by omega, by omega⟩⟩ ?_; conv => whnf)
      | ((with_reducible refine Tst.tt ?_); conv => whnf)
      | ((with_reducible refine Tst.ff ?_); conv => whnf)
      | ((with_reducible refine Tst.dec (fun _ => ?_) (fun _ => ?_)) <;> first | (exfalso; omega) | (conv => whnf))
      | ((with_reducible refine Tst.not ?_))
      | (refine Wit.conv ⟨by omega, by omega⟩ ?_; conv => whnf)
      | ((with_reducible refine IdxV.nat (by omega) ?_); conv => whnf)
      | ((with_reducible refine SameW.mk rfl ?_); conv => whnf)
      | (refine LoadV.mem (i := 0) (by assumption) rfl rfl ?_; conv => whnf)
      | (refine LoadV.mem (i := 1) (by assumption) rfl rfl ?_; conv => whnf)
      | (refine LoadV.mem (i := 2) (by assumption) rfl rfl ?_; conv => whnf)
      | ((with_reducible refine Tst.beqT ?_))
      | ((with_reducible refine Tst.beqF ?_))
      | (refine Tst.yes rfl ?_; conv => whnf)
      | (refine Tst.no rfl ?_; conv => whnf)))
    refine CallV.of (num_any _ w5) ?_
    rintro v w5 ⟨rfl, rfl⟩
    (conv => whnf)
    (repeat' (first
      | (refine Obl.mk ⟨by omega, by omega⟩ ?_; conv => whnf)
      | (refine Obl.mk ⟨by omega, by omega, ⟨by omega, by omega⟩⟩ ?_; conv => whnf)
      | ((with_reducible refine Tst.tt ?_); conv => whnf)
      | ((with_reducible refine Tst.ff ?_); conv => whnf)
      | ((with_reducible refine Tst.dec (fun _ => ?_) (fun _ => ?_)) <;> first | (exfalso; omega) | (conv => whnf))
      | ((with_reducible refine Tst.not ?_))
      | (refine Wit.conv ⟨by omega, by omega⟩ ?_; conv => whnf)
      | ((with_reducible refine IdxV.nat (by omega) ?_); conv => whnf)
      | ((with_reducible refine SameW.mk rfl ?_); conv => whnf)
      | (refine LoadV.mem (i := 0) (by assumption) rfl rfl ?_; conv => whnf)
      | (refine LoadV.mem (i := 1) (by assumption) rfl rfl ?_; conv => whnf)
      | (refine LoadV.mem (i := 2) (by assumption) rfl rfl ?_; conv => whnf)
      | ((with_reducible refine Tst.beqT ?_))
      | ((with_reducible refine Tst.beqF ?_))
      | (refine Tst.yes rfl ?_; conv => whnf)
      | (refine Tst.no rfl ?_; conv => whnf)))
    have hx5 := hx4.trans he5
    refine CallV.of (hcp w5 (hx2.trans hx5)) ?_
    rintro v w6 ⟨rfl, he6⟩
    (conv => whnf)
    (repeat' (first
      | (refine Obl.mk ⟨by omega, by omega⟩ ?_; conv => whnf)
      | (refine Obl.mk ⟨by omega, by omega, ⟨by omega, by omega⟩⟩ ?_; conv => whnf)
      | ((with_reducible refine Tst.tt ?_); conv => whnf)
      | ((with_reducible refine Tst.ff ?_); conv => whnf)
      | ((with_reducible refine Tst.dec (fun _ => ?_) (fun _ => ?_)) <;> first | (exfalso; omega) | (conv => whnf))
      | ((with_reducible refine Tst.not ?_))
      | (refine Wit.conv ⟨by omega, by omega⟩ ?_; conv => whnf)
      | ((with_reducible refine IdxV.nat (by omega) ?_); conv => whnf)
      | ((with_reducible refine SameW.mk rfl ?_); conv => whnf)
      | (refine LoadV.mem (i := 0) (by assumption) rfl rfl ?_; conv => whnf)
      | (refine LoadV.mem (i := 1) (by assumption) rfl rfl ?_; conv => whnf)
      | (refine LoadV.mem (i := 2) (by assumption) rfl rfl ?_; conv => whnf)
      | ((with_reducible refine Tst.beqT ?_))
      | ((with_reducible refine Tst.beqF ?_))
      | (refine Tst.yes rfl ?_; conv => whnf)
      | (refine Tst.no rfl ?_; conv => whnf)))
    refine CallV.of (num_any _ w6) ?_
    rintro v w6 ⟨rfl, rfl⟩
    (conv => whnf)
    (repeat' (first
      | (refine Obl.mk ⟨by omega, by omega⟩ ?_; conv => whnf)
      | (refine Obl.mk ⟨by omega, by omega, ⟨by omega, by omega⟩⟩ ?_; conv => whnf)
      | ((with_reducible refine Tst.tt ?_); conv => whnf)
      | ((with_reducible refine Tst.ff ?_); conv => whnf)
      | ((with_reducible refine Tst.dec (fun _ => ?_) (fun _ => ?_)) <;> first | (exfalso; omega) | (conv => whnf))
      | ((with_reducible refine Tst.not ?_))
      | (refine Wit.conv ⟨by omega, by omega⟩ ?_; conv => whnf)
      | ((with_reducible refine IdxV.nat (by omega) ?_); conv => whnf)
      | ((with_reducible refine SameW.mk rfl ?_); conv => whnf)
      | (refine LoadV.mem (i := 0) (by assumption) rfl rfl ?_; conv => whnf)
      | (refine LoadV.mem (i := 1) (by assumption) rfl rfl ?_; conv => whnf)
      | (refine LoadV.mem (i := 2) (by assumption) rfl rfl ?_; conv => whnf)
      | ((with_reducible refine Tst.beqT ?_))
      | ((with_reducible refine Tst.beqF ?_))
      | (refine Tst.yes rfl ?_; conv => whnf)
      | (refine Tst.no rfl ?_; conv => whnf)))
    refine Tst.yes (seq_iff.2 rfl) ?_
    (conv => whnf)
    (repeat' (first
      | (refine Obl.mk ⟨by omega, by omega⟩ ?_; conv => whnf)
      | (refine Obl.mk ⟨by omega, by omega, ⟨by omega, by omega⟩⟩ ?_; conv => whnf)
      | ((with_reducible refine Tst.tt ?_); conv => whnf)
      | ((with_reducible refine Tst.ff ?_); conv => whnf)
      | ((with_reducible refine Tst.dec (fun _ => ?_) (fun _ => ?_)) <;> first | (exfalso; omega) | (conv => whnf))
      | ((with_reducible refine Tst.not ?_))
      | (refine Wit.conv ⟨by omega, by omega⟩ ?_; conv => whnf)
      | ((with_reducible refine IdxV.nat (by omega) ?_); conv => whnf)
      | ((with_reducible refine SameW.mk rfl ?_); conv => whnf)
      | (refine LoadV.mem (i := 0) (by assumption) rfl rfl ?_; conv => whnf)
      | (refine LoadV.mem (i := 1) (by assumption) rfl rfl ?_; conv => whnf)
      | (refine LoadV.mem (i := 2) (by assumption) rfl rfl ?_; conv => whnf)
      | ((with_reducible refine Tst.beqT ?_))
      | ((with_reducible refine Tst.beqF ?_))
      | (refine Tst.yes rfl ?_; conv => whnf)
      | (refine Tst.no rfl ?_; conv => whnf)))
    have hx6 := hx5.trans he6
    refine CallV.of (hbk w6 hx6) ?_
    rintro v w7 ⟨rfl, he7⟩
    (conv => whnf)
    (repeat' (first
      | (refine Obl.mk ⟨by omega, by omega⟩ ?_; conv => whnf)
      | (refine Obl.mk ⟨by omega, by omega, ⟨by omega, by omega⟩⟩ ?_; conv => whnf)
      | ((with_reducible refine Tst.tt ?_); conv => whnf)
      | ((with_reducible refine Tst.ff ?_); conv => whnf)
      | ((with_reducible refine Tst.dec (fun _ => ?_) (fun _ => ?_)) <;> first | (exfalso; omega) | (conv => whnf))
      | ((with_reducible refine Tst.not ?_))
      | (refine Wit.conv ⟨by omega, by omega⟩ ?_; conv => whnf)
      | ((with_reducible refine IdxV.nat (by omega) ?_); conv => whnf)
      | ((with_reducible refine SameW.mk rfl ?_); conv => whnf)
      | (refine LoadV.mem (i := 0) (by assumption) rfl rfl ?_; conv => whnf)
      | (refine LoadV.mem (i := 1) (by assumption) rfl rfl ?_; conv => whnf)
      | (refine LoadV.mem (i := 2) (by assumption) rfl rfl ?_; conv => whnf)
      | ((with_reducible refine Tst.beqT ?_))
      | ((with_reducible refine Tst.beqF ?_))
      | (refine Tst.yes rfl ?_; conv => whnf)
      | (refine Tst.no rfl ?_; conv => whnf)))
    exact ⟨rfl, he1.trans (hx2.trans (hx6.trans he7))⟩
end Go.Proofs.YtajgbepghniciaaGreatDoor
