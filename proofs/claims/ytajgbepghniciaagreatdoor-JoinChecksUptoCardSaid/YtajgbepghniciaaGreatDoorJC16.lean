/- Lemmas and contracts of functions on the way to the law's card (part 16 of 17). -/
import Derived.Test.YtajgbepghniciaaGreatDoorJC15
import Derived.Laws.Cover1
import Derived.Lib.LaidTab
import Derived.Test.YtajgbepghniciaaGreatDoorRows
import Derived.Deep.DeepHandedRow
import Derived.ProofKit
import Derived.OpenShut
namespace Go.Proofs.YtajgbepghniciaaGreatDoor
open Go.RowKit V
set_option maxRecDepth 100000
theorem V.Fall.max3 {P : Program} {ρ : Nat → Value} {o : Oper} {c : Call} {k : IntKind} {x y z : Int} {w : World} {K : Value → World → Prop} (ho : o.op = .call c) (hc : c.callee = .builtin .max) (ha0 : evs ρ c.args.toList = [.int k x, .int k y, .int k z])
    (h : ∀ m, m = max (max x y) z → K (.int k m) w) : Fall P (execOp (ev ρ) o) w K := by
  have e : execOp (ev ρ) o = (do pure (.value (← Builtin.max_ c.argTypes o.type (c.args.map (ev ρ))))) := by
    simp only [execOp, ho, resolve, hc]; rfl
  have ha : c.args.map (ev ρ) = #[.int k x, .int k y, .int k z] := by
    rw [evs_eq] at ha0
    rw [← Array.toList_inj]; simpa using ha0
  refine ⟨.inl ⟨_, w, ?_, h _ rfl⟩⟩
  rw [e, ha]
  simp only [Sem.run_bind, run_max_int3, Result.andThen_ok, Sem.run_pure]
  congr 3
  rw [Int.max_def, Int.max_def]
  split <;> split <;> (try split) <;> omega
abbrev tB (r : Nat) (t : TS) : Nat × Obj := (r, .cells (tsC t).toArray 106 (0, 0))
abbrev vB (r : Nat) (A : Option Addr) (n c : Nat) : Nat × Obj := (r, .cells #[.slice A n c] 37 (0, 0))
theorem tsC_one (t : TS) : ∀ v ∈ tsC t, v.oneCell' = true := by
  intro v hv
  simp only [tsC, List.mem_cons, List.not_mem_nil, or_false] at hv
  rcases hv with rfl | rfl | rfl | rfl | rfl | rfl | rfl | rfl | rfl | rfl | rfl <;> rfl
theorem slC_one (s : SL) : ∀ v ∈ slC s, v.oneCell' = true := by
  intro v hv
  simp only [slC, List.mem_cons, List.not_mem_nil, or_false] at hv
  rcases hv with rfl | rfl | rfl | rfl | rfl <;> rfl
theorem olC_one (s : OL) : ∀ v ∈ olC s, v.oneCell' = true := by
  intro v hv
  simp only [olC, List.mem_cons, List.not_mem_nil, or_false] at hv
  rcases hv with rfl | rfl <;> rfl
theorem slotE_full {k : Nat} {s : SL} (h : seq s.v ⟨#[]⟩ = false) : slotE k s = if labE s.v ≠ 0 then 210 else 0 := by rw [slotE, if_pos h]
theorem slotE_none {k : Nat} {s : SL} (h : seq s.v ⟨#[]⟩ = true) : slotE k s = fitE k s.t := by rw [slotE, if_neg (by rw [h]; simp), fitE]
set_option maxHeartbeats 2000000 in
theorem queryCheck_any (q : QL) (w : World) (hq : QAt w q) (ho : QOk q) (hM : MaxLenAt w) (hT : CellsAt w 3 0 basesV) :
    Gv Tryz.prog 16 [queryV q] w fun v w' => v = .int .i64 (checkE q) ∧ Ext w w' := by
  have hV := fun w' (he : Ext w w') => vars_any q w' (hq.ext he) ho
  have hgl := ho.gl
  refine gv (by kernel_rfl) Tryz.func16 rfl Tryz.ntmps16 rfl ?_; conv => whnf
  refine NewV.mem (Mem.nil w) ?_
  intro b w1 hm
  have hm : Mem w w1 [qB b q] := hm
  (conv => whnf)
  (repeat' (first
      | (refine Obl.mk ⟨by omega, by omega⟩ ?_; conv => whnf)
      | (refine Obl.mk ⟨by omega, by omega, ⟨by omega, by omega⟩⟩ ?_; conv => whnf)
      | ((with_reducible refine Tst.tt ?_); conv => whnf)
      | ((with_reducible refine Tst.ff ?_); conv => whnf)
      | ((with_reducible refine Tst.dec (fun _ => ?_) (fun _ => ?_)) <;> first | (exfalso; omega) | (conv => whnf))
      | ((with_reducible refine Tst.not ?_))
      | (refine Wit.conv ⟨by omega, by omega⟩ ?_; conv => whnf)
      | ((with_reducible refine IdxV.nat (by omega) ?_); conv => whnf)
      | ((with_reducible refine SameW.mk rfl ?_); conv => whnf)
      | (refine LoadV.mem (i := 0) (by assumption) rfl rfl ?_; conv => whnf)
      | (refine LoadV.mem (i := 1) (by assumption) rfl rfl ?_; conv => whnf)
      | (refine LoadV.mem (i := 2) (by assumption) rfl rfl ?_; conv => whnf)
      | ((with_reducible refine Tst.beqT ?_))
      | ((with_reducible refine Tst.beqF ?_))
      | (refine Tst.yes rfl ?_; conv => whnf)
      | (refine Tst.no rfl ?_; conv => whnf)))
  · exact ⟨by rw [checkE, if_pos (.inl (by omega))]; rfl, hm.ext⟩
  refine V.Fall.max3 rfl rfl rfl fun m hmax => ?_
  (conv => whnf)
  (repeat' (first
      | (refine Obl.mk ⟨by omega, by omega⟩ ?_; conv => whnf)
      | (refine Obl.mk ⟨by omega, by omega, ⟨by omega, by omega⟩⟩ ?_; conv => whnf)
      | ((with_reducible refine Tst.tt ?_); conv => whnf)
      | ((with_reducible refine Tst.ff ?_); conv => whnf)
      | ((with_reducible refine Tst.dec (fun _ => ?_) (fun _ => ?_)) <;> first | (exfalso; omega) | (conv => whnf))
      | ((with_reducible refine Tst.not ?_))
      | (refine Wit.conv ⟨by omega, by omega⟩ ?_; conv => whnf)
      | ((with_reducible refine IdxV.nat (by omega) ?_); conv => whnf)
      | ((with_reducible refine SameW.mk rfl ?_); conv => whnf)
      | (refine LoadV.mem (i := 0) (by assumption) rfl rfl ?_; conv => whnf)
      | (refine LoadV.mem (i := 1) (by assumption) rfl rfl ?_; conv => whnf)
      | (refine LoadV.mem (i := 2) (by assumption) rfl rfl ?_; conv => whnf)
      | ((with_reducible refine Tst.beqT ?_))
      | ((with_reducible refine Tst.beqF ?_))
      | (refine Tst.yes rfl ?_; conv => whnf)
      | (refine Tst.no rfl ?_; conv => whnf)))
  · exact ⟨by rw [checkE, if_pos (.inr (by omega))]; rfl, hm.ext⟩
  have hC : checkE q = orE (firstE (q.gs.map goalE)) (orE (firstE (q.ts.map (testE (varsL q.gs)))) (orE (firstE (q.ss.map (nameE (varsL q.gs)))) (firstE (q.os.map fun o => nameE (varsL q.gs) o.v)))) := by
    rw [checkE, if_neg (by omega)]
  refine loopV (fun i : Nat => [(1, .pointer (some ⟨b, 0, none⟩)), (2, .int .i64 0), (38, .slice q.ga q.gs.length q.gc), (39, .int .i64 q.gs.length), (40, .int .i64 i)])
    (fun i w' => i ≤ q.gs.length ∧ (∀ j (hj : j < q.gs.length), j < i → goalE q.gs[j] = 0) ∧ Mem w w' [qB b q]) (fun i => q.gs.length - i) 0 ⟨rfl, rfl, rfl, rfl, rfl, trivial⟩ ⟨by omega, fun j hj h0 => by omega, hm⟩ ?_
  rintro i w2 ρ' ⟨i1, i2, hm2⟩
  (conv => whnf)
  (repeat' (first
      | (refine Obl.mk ⟨by omega, by omega⟩ ?_; conv => whnf)
      | (refine Obl.mk ⟨by omega, by omega, ⟨by omega, by omega⟩⟩ ?_; conv => whnf)
      | ((with_reducible refine Tst.tt ?_); conv => whnf)
      | ((with_reducible refine Tst.ff ?_); conv => whnf)
      | ((with_reducible refine Tst.dec (fun _ => ?_) (fun _ => ?_)) <;> first | (exfalso; omega) | (conv => whnf))
      | ((with_reducible refine Tst.not ?_))
      | (refine Wit.conv ⟨by omega, by omega⟩ ?_; conv => whnf)
      | ((with_reducible refine IdxV.nat (by omega) ?_); conv => whnf)
      | ((with_reducible refine SameW.mk rfl ?_); conv => whnf)
      | (refine LoadV.mem (i := 0) (by assumption) rfl rfl ?_; conv => whnf)
      | (refine LoadV.mem (i := 1) (by assumption) rfl rfl ?_; conv => whnf)
      | (refine LoadV.mem (i := 2) (by assumption) rfl rfl ?_; conv => whnf)
      | ((with_reducible refine Tst.beqT ?_))
      | ((with_reducible refine Tst.beqF ?_))
      | (refine Tst.yes rfl ?_; conv => whnf)
      | (refine Tst.no rfl ?_; conv => whnf)))
  · have hi : i < q.gs.length := by omega
    refine ElemV.sl (hq.g.ext hm2.ext) rfl i rfl hi ?_
    intro gb goff hc
    (conv => whnf)
    refine LoadA.cells hc rfl ?_
    (conv => whnf)
    refine NewV.mem hm2 ?_
    intro r w3 hm3
    (conv => whnf)
    refine StoreA.all (vs := goC q.gs[i]) hm3 (i := 0) rfl rfl (goC_one q.gs[i]) ?_
    intro w4 hm4
    have hm4 : Mem w w4 [gP r q.gs[i], qB b q] := hm4
    (conv => whnf)
    refine CallV.of (slots_any r w4) ?_
    rintro v w5 ⟨rfl, he5⟩
    have hm5 := hm4.call he5
    (conv => whnf)
    have hG : ∀ k, k < 4 → slotE k (q.gs[i].at k) ≠ 0 → (∀ j, j < k → slotE j (q.gs[i].at j) = 0) → checkE q = slotE k (q.gs[i].at k) := fun k hk hne hz => by
      have hlen : ((List.range 4).map fun k => slotE k (q.gs[i].at k)).length = 4 := by simp
      have hget : ∀ j (hj : j < ((List.range 4).map fun k => slotE k (q.gs[i].at k)).length), ((List.range 4).map fun k => slotE k (q.gs[i].at k))[j] = slotE j (q.gs[i].at j) := fun j hj => by simp
      have e : goalE q.gs[i] = slotE k (q.gs[i].at k) := by
        rw [goalE, firstE_at (k := k) (by rw [hlen]; exact hk) (fun j hj hjk => by rw [hget]; exact hz j hjk) (by rw [hget]; exact hne), hget]
      rw [hC, first_bad goalE q.gs i hi i2 (by omega), orE_n (by omega), e]
    refine loopV (fun k : Nat => [(1, .pointer (some ⟨b, 0, none⟩)), (2, .int .i64 0), (38, .slice q.ga q.gs.length q.gc), (39, .int .i64 q.gs.length), (40, .int .i64 i), (44, .agg (ptrs r).toArray), (45, .int .i64 k)])
      (fun k w' => k ≤ 4 ∧ (∀ j, j < k → slotE j (q.gs[i].at j) = 0) ∧ Mem w w' [gP r q.gs[i], qB b q]) (fun k => 4 - k) 0 ⟨rfl, rfl, rfl, rfl, rfl, rfl, rfl, trivial⟩ ⟨by omega, fun j h0 => by omega, hm5⟩ ?_
    rintro k w6 ρ' ⟨k1, k2, hm6⟩
    (conv => whnf)
    (repeat' (first
      | (refine Obl.mk ⟨by omega, by omega⟩ ?_; conv => whnf)
      | (refine Obl.mk ⟨by omega, by omega, ⟨by omega, by omega⟩⟩ ?_; conv => whnf)
      | ((with_reducible refine Tst.tt ?_); conv => whnf)
      | ((with_reducible refine Tst.ff ?_); conv => whnf)
      | ((with_reducible refine Tst.dec (fun _ => ?_) (fun _ => ?_)) <;> first | (exfalso; omega) | (conv => whnf))
      | ((with_reducible refine Tst.not ?_))
      | (refine Wit.conv ⟨by omega, by omega⟩ ?_; conv => whnf)
      | ((with_reducible refine IdxV.nat (by omega) ?_); conv => whnf)
      | ((with_reducible refine SameW.mk rfl ?_); conv => whnf)
      | (refine LoadV.mem (i := 0) (by assumption) rfl rfl ?_; conv => whnf)
      | (refine LoadV.mem (i := 1) (by assumption) rfl rfl ?_; conv => whnf)
      | (refine LoadV.mem (i := 2) (by assumption) rfl rfl ?_; conv => whnf)
      | ((with_reducible refine Tst.beqT ?_))
      | ((with_reducible refine Tst.beqF ?_))
      | (refine Tst.yes rfl ?_; conv => whnf)
      | (refine Tst.no rfl ?_; conv => whnf)))
    · have hk : k < 4 := by omega
      have hs := ho.g _ (List.getElem_mem hi) k
      have hgood : slotE k (q.gs[i].at k) = 0 → ∀ j, j < k + 1 → slotE j (q.gs[i].at j) = 0 := fun he j hj => by
        by_cases e : j = k
        · subst e; exact he
        · exact k2 j (by omega)
      refine ⟨.pointer (some ⟨r, k * 5, none⟩), ?_, ?_⟩
      · obtain rfl | rfl | rfl | rfl : k = 0 ∨ k = 1 ∨ k = 2 ∨ k = 3 := by omega
        all_goals rfl
      (conv => whnf)
      have hcl : ∀ w', Ext w6 w' → CellsAt w' r (k * 5) (slC (q.gs[i].at k)) := fun w' he => by
        have := goC_at (CellsAt.mem (hm6.call he) (List.mem_cons_self ..)) k hk
        rwa [Nat.zero_add] at this
      refine LoadV.cell0 (hcl w6 (Ext.refl _)) ?_
      (conv => whnf)
      cases hv : seq (q.gs[i].at k).v ⟨#[]⟩
      · have hE := slotE_full (k := k) hv
        (conv => whnf)
        (repeat' (first
      | (refine Obl.mk ⟨by omega, by omega⟩ ?_; conv => whnf)
      | (refine Obl.mk ⟨by omega, by omega, ⟨by omega, by omega⟩⟩ ?_; conv => whnf)
      | ((with_reducible refine Tst.tt ?_); conv => whnf)
      | ((with_reducible refine Tst.ff ?_); conv => whnf)
      | ((with_reducible refine Tst.dec (fun _ => ?_) (fun _ => ?_)) <;> first | (exfalso; omega) | (conv => whnf))
      | ((with_reducible refine Tst.not ?_))
      | (refine Wit.conv ⟨by omega, by omega⟩ ?_; conv => whnf)
      | ((with_reducible refine IdxV.nat (by omega) ?_); conv => whnf)
      | ((with_reducible refine SameW.mk rfl ?_); conv => whnf)
      | (refine LoadV.mem (i := 0) (by assumption) rfl rfl ?_; conv => whnf)
      | (refine LoadV.mem (i := 1) (by assumption) rfl rfl ?_; conv => whnf)
      | (refine LoadV.mem (i := 2) (by assumption) rfl rfl ?_; conv => whnf)
      | ((with_reducible refine Tst.beqT ?_))
      | ((with_reducible refine Tst.beqF ?_))
      | (refine Tst.yes rfl ?_; conv => whnf)
      | (refine Tst.no rfl ?_; conv => whnf)))
        refine LoadV.cell0 (hcl w6 (Ext.refl _)) ?_
        (conv => whnf)
        refine CallV.of (label_any (q.gs[i].at k).v (by have := hs.v; omega) w6 (hT.ext hm6.ext)) ?_
        rintro v w6 ⟨rfl, rfl⟩
        (conv => whnf)
        (repeat' (first
      | (refine Obl.mk ⟨by omega, by omega⟩ ?_; conv => whnf)
      | (refine Obl.mk ⟨by omega, by omega, ⟨by omega, by omega⟩⟩ ?_; conv => whnf)
      | ((with_reducible refine Tst.tt ?_); conv => whnf)
      | ((with_reducible refine Tst.ff ?_); conv => whnf)
      | ((with_reducible refine Tst.dec (fun _ => ?_) (fun _ => ?_)) <;> first | (exfalso; omega) | (conv => whnf))
      | ((with_reducible refine Tst.not ?_))
      | (refine Wit.conv ⟨by omega, by omega⟩ ?_; conv => whnf)
      | ((with_reducible refine IdxV.nat (by omega) ?_); conv => whnf)
      | ((with_reducible refine SameW.mk rfl ?_); conv => whnf)
      | (refine LoadV.mem (i := 0) (by assumption) rfl rfl ?_; conv => whnf)
      | (refine LoadV.mem (i := 1) (by assumption) rfl rfl ?_; conv => whnf)
      | (refine LoadV.mem (i := 2) (by assumption) rfl rfl ?_; conv => whnf)
      | ((with_reducible refine Tst.beqT ?_))
      | ((with_reducible refine Tst.beqF ?_))
      | (refine Tst.yes rfl ?_; conv => whnf)
      | (refine Tst.no rfl ?_; conv => whnf)))
        · exact ⟨by rw [hG k hk (by rw [hE, if_pos (by omega)]; decide) k2, hE, if_pos (by omega)]; rfl, hm6.ext⟩
        · exact ⟨k + 1, ⟨rfl, rfl, rfl, rfl, rfl, rfl, rfl, trivial⟩, ⟨by omega, hgood (by rw [hE, if_neg (by omega)]), hm6⟩, by omega⟩
      · have hE := slotE_none (k := k) hv
        (conv => whnf)
        (repeat' (first
      | (refine Obl.mk ⟨by omega, by omega⟩ ?_; conv => whnf)
      | (refine Obl.mk ⟨by omega, by omega, ⟨by omega, by omega⟩⟩ ?_; conv => whnf)
      | ((with_reducible refine Tst.tt ?_); conv => whnf)
      | ((with_reducible refine Tst.ff ?_); conv => whnf)
      | ((with_reducible refine Tst.dec (fun _ => ?_) (fun _ => ?_)) <;> first | (exfalso; omega) | (conv => whnf))
      | ((with_reducible refine Tst.not ?_))
      | (refine Wit.conv ⟨by omega, by omega⟩ ?_; conv => whnf)
      | ((with_reducible refine IdxV.nat (by omega) ?_); conv => whnf)
      | ((with_reducible refine SameW.mk rfl ?_); conv => whnf)
      | (refine LoadV.mem (i := 0) (by assumption) rfl rfl ?_; conv => whnf)
      | (refine LoadV.mem (i := 1) (by assumption) rfl rfl ?_; conv => whnf)
      | (refine LoadV.mem (i := 2) (by assumption) rfl rfl ?_; conv => whnf)
      | ((with_reducible refine Tst.beqT ?_))
      | ((with_reducible refine Tst.beqF ?_))
      | (refine Tst.yes rfl ?_; conv => whnf)
      | (refine Tst.no rfl ?_; conv => whnf)))
        refine LoadA.cells (CellsAt.tail (hcl w6 (Ext.refl _))) rfl ?_
        (conv => whnf)
        refine CallV.of (fits_any k hk (q.gs[i].at k).t hs.t w6 (hM.ext hm6.ext) (hT.ext hm6.ext)) ?_
        rintro v w7 ⟨rfl, he7⟩
        rw [← hE]
        (conv => whnf)
        (repeat' (first
      | (refine Obl.mk ⟨by omega, by omega⟩ ?_; conv => whnf)
      | (refine Obl.mk ⟨by omega, by omega, ⟨by omega, by omega⟩⟩ ?_; conv => whnf)
      | ((with_reducible refine Tst.tt ?_); conv => whnf)
      | ((with_reducible refine Tst.ff ?_); conv => whnf)
      | ((with_reducible refine Tst.dec (fun _ => ?_) (fun _ => ?_)) <;> first | (exfalso; omega) | (conv => whnf))
      | ((with_reducible refine Tst.not ?_))
      | (refine Wit.conv ⟨by omega, by omega⟩ ?_; conv => whnf)
      | ((with_reducible refine IdxV.nat (by omega) ?_); conv => whnf)
      | ((with_reducible refine SameW.mk rfl ?_); conv => whnf)
      | (refine LoadV.mem (i := 0) (by assumption) rfl rfl ?_; conv => whnf)
      | (refine LoadV.mem (i := 1) (by assumption) rfl rfl ?_; conv => whnf)
      | (refine LoadV.mem (i := 2) (by assumption) rfl rfl ?_; conv => whnf)
      | ((with_reducible refine Tst.beqT ?_))
      | ((with_reducible refine Tst.beqF ?_))
      | (refine Tst.yes rfl ?_; conv => whnf)
      | (refine Tst.no rfl ?_; conv => whnf)))
        · exact ⟨by rw [hG k hk (by omega) k2], hm6.ext.trans he7⟩
        · exact ⟨k + 1, ⟨rfl, rfl, rfl, rfl, rfl, rfl, rfl, trivial⟩, ⟨by omega, hgood (by omega), hm6.call he7⟩, by omega⟩
    · have hE : goalE q.gs[i] = 0 := by
        rw [goalE, firstE_zero fun j hj => by simp at hj ⊢; exact k2 j (by omega)]
      exact ⟨i + 1, ⟨rfl, rfl, rfl, rfl, rfl, trivial⟩, ⟨by omega, first_next goalE q.gs i hi i2 hE, hm6.sub (List.sublist_cons_self ..)⟩, by omega⟩
  rw [first_good goalE q.gs (fun j hj => i2 j hj (by omega)), orE_z rfl] at hC
  clear i1 i2
  refine LoadA.mem hm2 (i := 0) rfl rfl ?_
  (conv => whnf)
  refine CallV.of (hV w2 hm2.ext) ?_
  rintro v w3 ⟨A, c, l, rfl, hvs, he3⟩
  have hm3 := hm2.call he3
  have hln := hvs.len
  have hC : checkE q = orE (firstE (q.ts.map (testE l))) (firstE ((q.ss ++ q.os.map (·.v)).map (nameE l))) := by
    rw [hC]
    have e1 : testE (varsL q.gs) = testE l := funext fun t => (testE_congr hvs.mem t).symm
    have e2 : nameE (varsL q.gs) = nameE l := funext fun t => (nameE_congr hvs.mem t).symm
    rw [e1, e2, List.map_append, firstE_app, List.map_map]
    rfl
  (conv => whnf)
  refine NewV.mem (Mem.nil w3) ?_
  intro vb w4 hm4
  (conv => whnf)
  refine StoreV.mem hm4 (i := 0) rfl (show 0 < 1 by decide) rfl ?_
  intro w5 hm5
  have hm5 : Mem w3 w5 [vB vb A l.length c] := hm5
  have hkn : ∀ (x : ByteArray) (w' : World) (L : List (Nat × Obj)), Mem w3 w' L → vB vb A l.length c ∈ L → Gv Tryz.prog 45 [.string x, .pointer (some ⟨vb, 0, none⟩)] w' fun v w'' => v = .bool (inL l x) ∧ w'' = w' := fun x w' L hL hin =>
    known_any vb l hvs.so A c x w' (hvs.sl.ext hL.ext) (by omega) (by rw [cell_heap (hL.get hin)]; rfl)
  have hx3 := hm3.ext
  (conv => whnf)
  refine LoadV.mem (hm3.call hm5.ext) (i := 0) rfl rfl ?_
  (conv => whnf)
  refine loopV (fun i : Nat => [(1, .pointer (some ⟨b, 0, none⟩)), (2, .int .i64 0), (9, .func (.func 45) #[] #[.pointer (some ⟨vb, 0, none⟩)]), (75, .slice q.ta q.ts.length q.tc), (76, .int .i64 q.ts.length), (77, .int .i64 i)])
    (fun i w' => i ≤ q.ts.length ∧ (∀ j (hj : j < q.ts.length), j < i → testE l q.ts[j] = 0) ∧ Mem w3 w' [vB vb A l.length c]) (fun i => q.ts.length - i) 0 ⟨rfl, rfl, rfl, rfl, rfl, rfl, trivial⟩ ⟨by omega, fun j hj h0 => by omega, hm5⟩ ?_
  rintro i w6 ρ' ⟨i1, i2, hm6⟩
  (conv => whnf)
  (repeat' (first
      | (refine Obl.mk ⟨by omega, by omega⟩ ?_; conv => whnf)
      | (refine Obl.mk ⟨by omega, by omega, ⟨by omega, by omega⟩⟩ ?_; conv => whnf)
      | ((with_reducible refine Tst.tt ?_); conv => whnf)
      | ((with_reducible refine Tst.ff ?_); conv => whnf)
      | ((with_reducible refine Tst.dec (fun _ => ?_) (fun _ => ?_)) <;> first | (exfalso; omega) | (conv => whnf))
      | ((with_reducible refine Tst.not ?_))
      | (refine Wit.conv ⟨by omega, by omega⟩ ?_; conv => whnf)
      | ((with_reducible refine IdxV.nat (by omega) ?_); conv => whnf)
      | ((with_reducible refine SameW.mk rfl ?_); conv => whnf)
      | (refine LoadV.mem (i := 0) (by assumption) rfl rfl ?_; conv => whnf)
      | (refine LoadV.mem (i := 1) (by assumption) rfl rfl ?_; conv => whnf)
      | (refine LoadV.mem (i := 2) (by assumption) rfl rfl ?_; conv => whnf)
      | ((with_reducible refine Tst.beqT ?_))
      | ((with_reducible refine Tst.beqF ?_))
      | (refine Tst.yes rfl ?_; conv => whnf)
      | (refine Tst.no rfl ?_; conv => whnf)))
  · have hi : i < q.ts.length := by omega
    obtain ⟨o1, o2, o3⟩ := ho.t _ (List.getElem_mem hi)
    obtain ⟨t, ht⟩ : ∃ t, t = q.ts[i] := ⟨_, rfl⟩
    have hok : ∀ k, SlotOk (t.at k) := fun k => by rw [ht]; cases k <;> assumption
    refine ElemV.sl (hq.t.ext (hx3.trans hm6.ext)) rfl i rfl hi ?_
    intro gb goff hc
    rw [← ht] at hc
    have hbad : ∀ e, testE l t = e → e ≠ 0 → checkE q = e := fun e he hne => by
      rw [hC, first_bad (testE l) q.ts i hi i2 (by rw [← ht, he]; exact hne), ← ht, he, orE_n hne]
    have hgood : testE l t = 0 → ∀ j (hj : j < q.ts.length), j < i + 1 → testE l q.ts[j] = 0 := fun he => first_next (testE l) q.ts i hi i2 (by rw [← ht]; exact he)
    (conv => whnf)
    refine LoadA.cells hc rfl ?_
    (conv => whnf)
    refine NewV.mem hm6 ?_
    intro tb w7 hm7
    (conv => whnf)
    refine StoreA.all (vs := tsC t) hm7 (i := 0) rfl rfl (tsC_one t) ?_
    intro w8 hm8
    have hm8 : Mem w3 w8 [tB tb t, vB vb A l.length c] := hm8
    have htc : CellsAt w8 tb 0 (tsC t) := CellsAt.mem hm8 (List.mem_cons_self ..)
    (conv => whnf)
    (repeat' (first
      | (refine Obl.mk ⟨by omega, by omega⟩ ?_; conv => whnf)
      | (refine Obl.mk ⟨by omega, by omega, ⟨by omega, by omega⟩⟩ ?_; conv => whnf)
      | ((with_reducible refine Tst.tt ?_); conv => whnf)
      | ((with_reducible refine Tst.ff ?_); conv => whnf)
      | ((with_reducible refine Tst.dec (fun _ => ?_) (fun _ => ?_)) <;> first | (exfalso; omega) | (conv => whnf))
      | ((with_reducible refine Tst.not ?_))
      | (refine Wit.conv ⟨by omega, by omega⟩ ?_; conv => whnf)
      | ((with_reducible refine IdxV.nat (by omega) ?_); conv => whnf)
      | ((with_reducible refine SameW.mk rfl ?_); conv => whnf)
      | (refine LoadV.mem (i := 0) (by assumption) rfl rfl ?_; conv => whnf)
      | (refine LoadV.mem (i := 1) (by assumption) rfl rfl ?_; conv => whnf)
      | (refine LoadV.mem (i := 2) (by assumption) rfl rfl ?_; conv => whnf)
      | ((with_reducible refine Tst.beqT ?_))
      | ((with_reducible refine Tst.beqF ?_))
      | (refine Tst.yes rfl ?_; conv => whnf)
      | (refine Tst.no rfl ?_; conv => whnf)))
    · exact ⟨by rw [hbad 211 (by rw [testE, if_pos (by omega)]) (by decide)]; rfl, hx3.trans hm8.ext⟩
    · exact ⟨by rw [hbad 211 (by rw [testE, if_pos (by omega)]) (by decide)]; rfl, hx3.trans hm8.ext⟩
    have hTE : testE l t = firstE [slotT l t.l, slotT l t.r] := by rw [testE, if_neg (by omega)]
    refine LoadA.cells (tsC_at htc 0 (by omega)) rfl ?_
    (conv => whnf)
    refine LoadA.cells (tsC_at htc 1 (by omega)) rfl ?_
    (conv => whnf)
    refine loopV (fun k : Nat => [(1, .pointer (some ⟨b, 0, none⟩)), (2, .int .i64 0), (9, .func (.func 45) #[] #[.pointer (some ⟨vb, 0, none⟩)]), (75, .slice q.ta q.ts.length q.tc), (76, .int .i64 q.ts.length), (77, .int .i64 i), (93, .agg (pairC t).toArray), (94, .int .i64 k)])
      (fun k w' => k ≤ 2 ∧ (∀ j, j < k → slotT l (t.at j) = 0) ∧ Mem w3 w' [tB tb t, vB vb A l.length c]) (fun k => 2 - k) 0 ⟨rfl, rfl, rfl, rfl, rfl, rfl, rfl, rfl, trivial⟩ ⟨by omega, fun j h0 => by omega, hm8⟩ ?_
    rintro k w9 ρ' ⟨k1, k2, hm9⟩
    (conv => whnf)
    (repeat' (first
      | (refine Obl.mk ⟨by omega, by omega⟩ ?_; conv => whnf)
      | (refine Obl.mk ⟨by omega, by omega, ⟨by omega, by omega⟩⟩ ?_; conv => whnf)
      | ((with_reducible refine Tst.tt ?_); conv => whnf)
      | ((with_reducible refine Tst.ff ?_); conv => whnf)
      | ((with_reducible refine Tst.dec (fun _ => ?_) (fun _ => ?_)) <;> first | (exfalso; omega) | (conv => whnf))
      | ((with_reducible refine Tst.not ?_))
      | (refine Wit.conv ⟨by omega, by omega⟩ ?_; conv => whnf)
      | ((with_reducible refine IdxV.nat (by omega) ?_); conv => whnf)
      | ((with_reducible refine SameW.mk rfl ?_); conv => whnf)
      | (refine LoadV.mem (i := 0) (by assumption) rfl rfl ?_; conv => whnf)
      | (refine LoadV.mem (i := 1) (by assumption) rfl rfl ?_; conv => whnf)
      | (refine LoadV.mem (i := 2) (by assumption) rfl rfl ?_; conv => whnf)
      | ((with_reducible refine Tst.beqT ?_))
      | ((with_reducible refine Tst.beqF ?_))
      | (refine Tst.yes rfl ?_; conv => whnf)
      | (refine Tst.no rfl ?_; conv => whnf)))
    · have hk : k < 2 := by omega
      have hs := hok k
      have hbad2 : slotT l (t.at k) ≠ 0 → checkE q = slotT l (t.at k) := fun hne => hbad _ (by
        rw [hTE]
        obtain rfl | rfl : k = 0 ∨ k = 1 := by omega
        · rw [firstE, if_pos (by exact hne)]; rfl
        · rw [firstE, if_neg (by rw [show slotT l t.l = 0 from k2 0 (by omega)]; simp), firstE, if_pos (by exact hne)]; rfl) hne
      have hgood2 : slotT l (t.at k) = 0 → ∀ j, j < k + 1 → slotT l (t.at j) = 0 := fun he j hj => by
        by_cases e : j = k
        · subst e; exact he
        · exact k2 j (by omega)
      refine Wit.eq (y := slC (t.at k)) ?_ ?_
      · obtain rfl | rfl : k = 0 ∨ k = 1 := by omega
        all_goals rfl
      (conv => whnf)
      refine NewV.mem hm9 ?_
      intro sb w10 hm10
      (conv => whnf)
      refine StoreA.all (vs := slC (t.at k)) hm10 (i := 0) rfl rfl (slC_one _) ?_
      intro w11 hm11
      have hm11 : Mem w3 w11 [(sb, .cells (slC (t.at k)).toArray 88 (0, 0)), tB tb t, vB vb A l.length c] := hm11
      have hsc : CellsAt w11 sb 0 (slC (t.at k)) := CellsAt.mem hm11 (List.mem_cons_self ..)
      (conv => whnf)
      refine LoadV.cell0 hsc ?_
      (conv => whnf)
      cases hv : seq (t.at k).v ⟨#[]⟩
      · have hE : slotT l (t.at k) = nameE l (t.at k).v := by rw [slotT, if_pos hv]
        (conv => whnf)
        (repeat' (first
      | (refine Obl.mk ⟨by omega, by omega⟩ ?_; conv => whnf)
      | (refine Obl.mk ⟨by omega, by omega, ⟨by omega, by omega⟩⟩ ?_; conv => whnf)
      | ((with_reducible refine Tst.tt ?_); conv => whnf)
      | ((with_reducible refine Tst.ff ?_); conv => whnf)
      | ((with_reducible refine Tst.dec (fun _ => ?_) (fun _ => ?_)) <;> first | (exfalso; omega) | (conv => whnf))
      | ((with_reducible refine Tst.not ?_))
      | (refine Wit.conv ⟨by omega, by omega⟩ ?_; conv => whnf)
      | ((with_reducible refine IdxV.nat (by omega) ?_); conv => whnf)
      | ((with_reducible refine SameW.mk rfl ?_); conv => whnf)
      | (refine LoadV.mem (i := 0) (by assumption) rfl rfl ?_; conv => whnf)
      | (refine LoadV.mem (i := 1) (by assumption) rfl rfl ?_; conv => whnf)
      | (refine LoadV.mem (i := 2) (by assumption) rfl rfl ?_; conv => whnf)
      | ((with_reducible refine Tst.beqT ?_))
      | ((with_reducible refine Tst.beqF ?_))
      | (refine Tst.yes rfl ?_; conv => whnf)
      | (refine Tst.no rfl ?_; conv => whnf)))
        refine CallV.of (hkn (t.at k).v w11 _ hm11 (by simp)) ?_
        rintro v w11 ⟨rfl, rfl⟩
        cases hin : inL l (t.at k).v
        · rw [nameE, hin] at hE
          (conv => whnf)
          (repeat' (first
      | (refine Obl.mk ⟨by omega, by omega⟩ ?_; conv => whnf)
      | (refine Obl.mk ⟨by omega, by omega, ⟨by omega, by omega⟩⟩ ?_; conv => whnf)
      | ((with_reducible refine Tst.tt ?_); conv => whnf)
      | ((with_reducible refine Tst.ff ?_); conv => whnf)
      | ((with_reducible refine Tst.dec (fun _ => ?_) (fun _ => ?_)) <;> first | (exfalso; omega) | (conv => whnf))
      | ((with_reducible refine Tst.not ?_))
      | (refine Wit.conv ⟨by omega, by omega⟩ ?_; conv => whnf)
      | ((with_reducible refine IdxV.nat (by omega) ?_); conv => whnf)
      | ((with_reducible refine SameW.mk rfl ?_); conv => whnf)
      | (refine LoadV.mem (i := 0) (by assumption) rfl rfl ?_; conv => whnf)
      | (refine LoadV.mem (i := 1) (by assumption) rfl rfl ?_; conv => whnf)
      | (refine LoadV.mem (i := 2) (by assumption) rfl rfl ?_; conv => whnf)
      | ((with_reducible refine Tst.beqT ?_))
      | ((with_reducible refine Tst.beqF ?_))
      | (refine Tst.yes rfl ?_; conv => whnf)
      | (refine Tst.no rfl ?_; conv => whnf)))
          exact ⟨by rw [hbad2 (by rw [hE]; decide), hE]; rfl, hx3.trans hm11.ext⟩
        · rw [nameE, hin] at hE
          (conv => whnf)
          (repeat' (first
      | (refine Obl.mk ⟨by omega, by omega⟩ ?_; conv => whnf)
      | (refine Obl.mk ⟨by omega, by omega, ⟨by omega, by omega⟩⟩ ?_; conv => whnf)
      | ((with_reducible refine Tst.tt ?_); conv => whnf)
      | ((with_reducible refine Tst.ff ?_); conv => whnf)
      | ((with_reducible refine Tst.dec (fun _ => ?_) (fun _ => ?_)) <;> first | (exfalso; omega) | (conv => whnf))
      | ((with_reducible refine Tst.not ?_))
      | (refine Wit.conv ⟨by omega, by omega⟩ ?_; conv => whnf)
      | ((with_reducible refine IdxV.nat (by omega) ?_); conv => whnf)
      | ((with_reducible refine SameW.mk rfl ?_); conv => whnf)
      | (refine LoadV.mem (i := 0) (by assumption) rfl rfl ?_; conv => whnf)
      | (refine LoadV.mem (i := 1) (by assumption) rfl rfl ?_; conv => whnf)
      | (refine LoadV.mem (i := 2) (by assumption) rfl rfl ?_; conv => whnf)
      | ((with_reducible refine Tst.beqT ?_))
      | ((with_reducible refine Tst.beqF ?_))
      | (refine Tst.yes rfl ?_; conv => whnf)
      | (refine Tst.no rfl ?_; conv => whnf)))
          exact ⟨k + 1, ⟨rfl, rfl, rfl, rfl, rfl, rfl, rfl, rfl, trivial⟩, ⟨by omega, hgood2 hE, hm11.sub (List.sublist_cons_self ..)⟩, by omega⟩
      · have hE : slotT l (t.at k) = termE (t.at k).t := by rw [slotT, if_neg (by rw [hv]; simp)]
        (conv => whnf)
        (repeat' (first
      | (refine Obl.mk ⟨by omega, by omega⟩ ?_; conv => whnf)
      | (refine Obl.mk ⟨by omega, by omega, ⟨by omega, by omega⟩⟩ ?_; conv => whnf)
      | ((with_reducible refine Tst.tt ?_); conv => whnf)
      | ((with_reducible refine Tst.ff ?_); conv => whnf)
      | ((with_reducible refine Tst.dec (fun _ => ?_) (fun _ => ?_)) <;> first | (exfalso; omega) | (conv => whnf))
      | ((with_reducible refine Tst.not ?_))
      | (refine Wit.conv ⟨by omega, by omega⟩ ?_; conv => whnf)
      | ((with_reducible refine IdxV.nat (by omega) ?_); conv => whnf)
      | ((with_reducible refine SameW.mk rfl ?_); conv => whnf)
      | (refine LoadV.mem (i := 0) (by assumption) rfl rfl ?_; conv => whnf)
      | (refine LoadV.mem (i := 1) (by assumption) rfl rfl ?_; conv => whnf)
      | (refine LoadV.mem (i := 2) (by assumption) rfl rfl ?_; conv => whnf)
      | ((with_reducible refine Tst.beqT ?_))
      | ((with_reducible refine Tst.beqF ?_))
      | (refine Tst.yes rfl ?_; conv => whnf)
      | (refine Tst.no rfl ?_; conv => whnf)))
        refine LoadA.cells (CellsAt.tail hsc) rfl ?_
        (conv => whnf)
        refine CallV.of (termCheck_any (t.at k).t hs.t w11 (hM.ext (hx3.trans hm11.ext)) (hT.ext (hx3.trans hm11.ext))) ?_
        rintro v w12 ⟨rfl, he12⟩
        rw [← hE]
        (conv => whnf)
        (repeat' (first
      | (refine Obl.mk ⟨by omega, by omega⟩ ?_; conv => whnf)
      | (refine Obl.mk ⟨by omega, by omega, ⟨by omega, by omega⟩⟩ ?_; conv => whnf)
      | ((with_reducible refine Tst.tt ?_); conv => whnf)
      | ((with_reducible refine Tst.ff ?_); conv => whnf)
      | ((with_reducible refine Tst.dec (fun _ => ?_) (fun _ => ?_)) <;> first | (exfalso; omega) | (conv => whnf))
      | ((with_reducible refine Tst.not ?_))
      | (refine Wit.conv ⟨by omega, by omega⟩ ?_; conv => whnf)
      | ((with_reducible refine IdxV.nat (by omega) ?_); conv => whnf)
      | ((with_reducible refine SameW.mk rfl ?_); conv => whnf)
      | (refine LoadV.mem (i := 0) (by assumption) rfl rfl ?_; conv => whnf)
      | (refine LoadV.mem (i := 1) (by assumption) rfl rfl ?_; conv => whnf)
      | (refine LoadV.mem (i := 2) (by assumption) rfl rfl ?_; conv => whnf)
      | ((with_reducible refine Tst.beqT ?_))
      | ((with_reducible refine Tst.beqF ?_))
      | (refine Tst.yes rfl ?_; conv => whnf)
      | (refine Tst.no rfl ?_; conv => whnf)))
        · exact ⟨by rw [hbad2 (by omega)], hx3.trans (hm11.ext.trans he12)⟩
        · exact ⟨k + 1, ⟨rfl, rfl, rfl, rfl, rfl, rfl, rfl, rfl, trivial⟩, ⟨by omega, hgood2 (by omega), (hm11.call he12).sub (List.sublist_cons_self ..)⟩, by omega⟩
    · have e0 : slotT l t.l = 0 := k2 0 (by omega)
      have e1 : slotT l t.r = 0 := k2 1 (by omega)
      exact ⟨i + 1, ⟨rfl, rfl, rfl, rfl, rfl, rfl, trivial⟩, ⟨by omega, hgood (by rw [hTE, e0, e1]; rfl), hm9.sub (List.sublist_cons_self ..)⟩, by omega⟩
  rw [first_good (testE l) q.ts (fun j hj => i2 j hj (by omega)), orE_z rfl] at hC
  clear i1 i2
  refine LoadV.mem (hm3.call hm6.ext) (i := 0) rfl rfl ?_
  (conv => whnf)
  refine CallV.of (clone_any q.ss q.sa q.sc w6 hm6 (hq.s.ext (hx3.trans hm6.ext)) ho.sl) ?_
  rintro v w7 ⟨B, d, rfl, hR⟩
  have hol := ho.ol
  have hsl := ho.sl
  (conv => whnf)
  refine LoadV.mem (hm3.call hR.mem.ext) (i := 0) rfl rfl ?_
  (conv => whnf)
  refine loopV (fun x : Nat × List ByteArray × Option Addr × Nat => [(1, .pointer (some ⟨b, 0, none⟩)), (2, .int .i64 0), (9, .func (.func 45) #[] #[.pointer (some ⟨vb, 0, none⟩)]), (15, .slice x.2.2.1 x.2.1.length x.2.2.2), (117, .slice q.oa q.os.length q.oc), (118, .int .i64 q.os.length), (119, .int .i64 x.1)])
    (fun x w' => x.1 ≤ q.os.length ∧ x.2.1 = q.ss ++ (q.os.take x.1).map (·.v) ∧ Rw w3 w' (.slice x.2.2.1 x.2.1.length x.2.2.2) 9 1 x.2.1.length (x.2.1.map Value.string) [vB vb A l.length c]) (fun x => q.os.length - x.1) (0, q.ss, B, d) ⟨rfl, rfl, rfl, rfl, rfl, rfl, rfl, trivial⟩ ⟨by simp, by simp, hR⟩ ?_
  clear hR
  rintro ⟨i, xs, B, d⟩ w8 ρ' ⟨i1, i2, hR⟩
  dsimp only at i1 i2 hR ⊢
  have hxl : xs.length ≤ 1048576 + 1048576 := by
    rw [i2, List.length_append, List.length_map, List.length_take]
    omega
  (conv => whnf)
  (repeat' (first
      | (refine Obl.mk ⟨by omega, by omega⟩ ?_; conv => whnf)
      | (refine Obl.mk ⟨by omega, by omega, ⟨by omega, by omega⟩⟩ ?_; conv => whnf)
      | ((with_reducible refine Tst.tt ?_); conv => whnf)
      | ((with_reducible refine Tst.ff ?_); conv => whnf)
      | ((with_reducible refine Tst.dec (fun _ => ?_) (fun _ => ?_)) <;> first | (exfalso; omega) | (conv => whnf))
      | ((with_reducible refine Tst.not ?_))
      | (refine Wit.conv ⟨by omega, by omega⟩ ?_; conv => whnf)
      | ((with_reducible refine IdxV.nat (by omega) ?_); conv => whnf)
      | ((with_reducible refine SameW.mk rfl ?_); conv => whnf)
      | (refine LoadV.mem (i := 0) (by assumption) rfl rfl ?_; conv => whnf)
      | (refine LoadV.mem (i := 1) (by assumption) rfl rfl ?_; conv => whnf)
      | (refine LoadV.mem (i := 2) (by assumption) rfl rfl ?_; conv => whnf)
      | ((with_reducible refine Tst.beqT ?_))
      | ((with_reducible refine Tst.beqF ?_))
      | (refine Tst.yes rfl ?_; conv => whnf)
      | (refine Tst.no rfl ?_; conv => whnf)))
  · have hi : i < q.os.length := by omega
    have htk : q.os.take (i + 1) = q.os.take i ++ [q.os[i]] := by rw [List.take_succ_eq_append_getElem hi]
    refine ElemV.sl (hq.o.ext (hx3.trans hR.mem.ext)) rfl i rfl hi ?_
    intro gb goff hc
    (conv => whnf)
    refine LoadA.cells hc rfl ?_
    (conv => whnf)
    refine NewV.rw hR ?_
    intro ob w9 hR
    (conv => whnf)
    refine StoreA.rwAll hR rfl (olC_one q.os[i]) ?_
    intro w10 hR
    (conv => whnf)
    refine LoadV.mem hR.mem (i := 0) rfl rfl ?_
    (conv => whnf)
    refine NewV.rw hR ?_
    intro nb w11 hR
    (conv => whnf)
    refine AppV.one strSl strI strZ (by kernel_rfl) rfl (by decide +kernel) hR rfl (by omega) ?_
    intro B' d' w12 hR
    (conv => whnf)
    (repeat' (first
      | (refine Obl.mk ⟨by omega, by omega⟩ ?_; conv => whnf)
      | (refine Obl.mk ⟨by omega, by omega, ⟨by omega, by omega⟩⟩ ?_; conv => whnf)
      | ((with_reducible refine Tst.tt ?_); conv => whnf)
      | ((with_reducible refine Tst.ff ?_); conv => whnf)
      | ((with_reducible refine Tst.dec (fun _ => ?_) (fun _ => ?_)) <;> first | (exfalso; omega) | (conv => whnf))
      | ((with_reducible refine Tst.not ?_))
      | (refine Wit.conv ⟨by omega, by omega⟩ ?_; conv => whnf)
      | ((with_reducible refine IdxV.nat (by omega) ?_); conv => whnf)
      | ((with_reducible refine SameW.mk rfl ?_); conv => whnf)
      | (refine LoadV.mem (i := 0) (by assumption) rfl rfl ?_; conv => whnf)
      | (refine LoadV.mem (i := 1) (by assumption) rfl rfl ?_; conv => whnf)
      | (refine LoadV.mem (i := 2) (by assumption) rfl rfl ?_; conv => whnf)
      | ((with_reducible refine Tst.beqT ?_))
      | ((with_reducible refine Tst.beqF ?_))
      | (refine Tst.yes rfl ?_; conv => whnf)
      | (refine Tst.no rfl ?_; conv => whnf)))
    refine ⟨(i + 1, xs ++ [q.os[i].v], B', d'), ⟨rfl, rfl, rfl, by simp only [List.length_append]; rfl, rfl, rfl, rfl, trivial⟩, ⟨by simp only; omega, ?_, ?_⟩, by simp only; omega⟩
    · simp only
      rw [i2, htk, List.map_append, List.append_assoc]; rfl
    · simp only [List.length_append, List.length_singleton, List.map_append, List.map_cons, List.map_nil]
      exact hR.tail
  have hxs : xs = q.ss ++ q.os.map (·.v) := by rw [i2, List.take_of_length_le (by omega)]
  rw [← hxs] at hC
  clear i1 i2
  refine loopV (fun i : Nat => [(2, .int .i64 0), (9, .func (.func 45) #[] #[.pointer (some ⟨vb, 0, none⟩)]), (129, .slice B xs.length d), (130, .int .i64 xs.length), (131, .int .i64 i)])
    (fun i w' => i ≤ xs.length ∧ (∀ j (hj : j < xs.length), j < i → nameE l xs[j] = 0) ∧ w' = w8) (fun i => xs.length - i) 0 ⟨rfl, rfl, rfl, rfl, rfl, trivial⟩ ⟨by omega, fun j hj h0 => by omega, rfl⟩ ?_
  rintro i w9 ρ' ⟨i1, i2, rfl⟩
  (conv => whnf)
  (repeat' (first
      | (refine Obl.mk ⟨by omega, by omega⟩ ?_; conv => whnf)
      | (refine Obl.mk ⟨by omega, by omega, ⟨by omega, by omega⟩⟩ ?_; conv => whnf)
      | ((with_reducible refine Tst.tt ?_); conv => whnf)
      | ((with_reducible refine Tst.ff ?_); conv => whnf)
      | ((with_reducible refine Tst.dec (fun _ => ?_) (fun _ => ?_)) <;> first | (exfalso; omega) | (conv => whnf))
      | ((with_reducible refine Tst.not ?_))
      | (refine Wit.conv ⟨by omega, by omega⟩ ?_; conv => whnf)
      | ((with_reducible refine IdxV.nat (by omega) ?_); conv => whnf)
      | ((with_reducible refine SameW.mk rfl ?_); conv => whnf)
      | (refine LoadV.mem (i := 0) (by assumption) rfl rfl ?_; conv => whnf)
      | (refine LoadV.mem (i := 1) (by assumption) rfl rfl ?_; conv => whnf)
      | (refine LoadV.mem (i := 2) (by assumption) rfl rfl ?_; conv => whnf)
      | ((with_reducible refine Tst.beqT ?_))
      | ((with_reducible refine Tst.beqF ?_))
      | (refine Tst.yes rfl ?_; conv => whnf)
      | (refine Tst.no rfl ?_; conv => whnf)))
  · have hi : i < xs.length := by omega
    refine ElemV.sl hR.strs.1 rfl i rfl hi ?_
    intro gb goff hc
    (conv => whnf)
    refine LoadV.cell0 hc ?_
    (conv => whnf)
    refine CallV.of (hkn xs[i] w9 _ hR.mem (by simp)) ?_
    rintro v w9 ⟨rfl, rfl⟩
    have hE : nameE l xs[i] = if inL l xs[i] = true then 0 else 210 := rfl
    cases hin : inL l xs[i]
    · rw [hin] at hE
      (conv => whnf)
      (repeat' (first
      | (refine Obl.mk ⟨by omega, by omega⟩ ?_; conv => whnf)
      | (refine Obl.mk ⟨by omega, by omega, ⟨by omega, by omega⟩⟩ ?_; conv => whnf)
      | ((with_reducible refine Tst.tt ?_); conv => whnf)
      | ((with_reducible refine Tst.ff ?_); conv => whnf)
      | ((with_reducible refine Tst.dec (fun _ => ?_) (fun _ => ?_)) <;> first | (exfalso; omega) | (conv => whnf))
      | ((with_reducible refine Tst.not ?_))
      | (refine Wit.conv ⟨by omega, by omega⟩ ?_; conv => whnf)
      | ((with_reducible refine IdxV.nat (by omega) ?_); conv => whnf)
      | ((with_reducible refine SameW.mk rfl ?_); conv => whnf)
      | (refine LoadV.mem (i := 0) (by assumption) rfl rfl ?_; conv => whnf)
      | (refine LoadV.mem (i := 1) (by assumption) rfl rfl ?_; conv => whnf)
      | (refine LoadV.mem (i := 2) (by assumption) rfl rfl ?_; conv => whnf)
      | ((with_reducible refine Tst.beqT ?_))
      | ((with_reducible refine Tst.beqF ?_))
      | (refine Tst.yes rfl ?_; conv => whnf)
      | (refine Tst.no rfl ?_; conv => whnf)))
      exact ⟨by rw [hC, first_bad (nameE l) xs i hi i2 (by rw [hE]; decide), hE]; rfl, hx3.trans hR.mem.ext⟩
    · rw [hin] at hE
      (conv => whnf)
      (repeat' (first
      | (refine Obl.mk ⟨by omega, by omega⟩ ?_; conv => whnf)
      | (refine Obl.mk ⟨by omega, by omega, ⟨by omega, by omega⟩⟩ ?_; conv => whnf)
      | ((with_reducible refine Tst.tt ?_); conv => whnf)
      | ((with_reducible refine Tst.ff ?_); conv => whnf)
      | ((with_reducible refine Tst.dec (fun _ => ?_) (fun _ => ?_)) <;> first | (exfalso; omega) | (conv => whnf))
      | ((with_reducible refine Tst.not ?_))
      | (refine Wit.conv ⟨by omega, by omega⟩ ?_; conv => whnf)
      | ((with_reducible refine IdxV.nat (by omega) ?_); conv => whnf)
      | ((with_reducible refine SameW.mk rfl ?_); conv => whnf)
      | (refine LoadV.mem (i := 0) (by assumption) rfl rfl ?_; conv => whnf)
      | (refine LoadV.mem (i := 1) (by assumption) rfl rfl ?_; conv => whnf)
      | (refine LoadV.mem (i := 2) (by assumption) rfl rfl ?_; conv => whnf)
      | ((with_reducible refine Tst.beqT ?_))
      | ((with_reducible refine Tst.beqF ?_))
      | (refine Tst.yes rfl ?_; conv => whnf)
      | (refine Tst.no rfl ?_; conv => whnf)))
      exact ⟨i + 1, ⟨rfl, rfl, rfl, rfl, rfl, trivial⟩, ⟨by omega, first_next (nameE l) xs i hi i2 hE, rfl⟩, by omega⟩
  · exact ⟨by rw [hC, first_good (nameE l) xs (fun j hj => i2 j hj (by omega))]; rfl, hx3.trans hR.mem.ext⟩
end Go.Proofs.YtajgbepghniciaaGreatDoor
namespace Go.Proofs.YtajgbepghniciaaGreatDoor
open Go.RowKit V
set_option maxRecDepth 100000
def VarsR (gs : List GL) (v : Value) (w : World) : Prop := ∃ A c l, v = .slice A l.length c ∧ VarsAt w gs A l
theorem VarsAt.ext {w w' : World} {gs : List GL} {A : Option Addr} {l : List ByteArray} (h : VarsAt w gs A l) (he : Ext w w') : VarsAt w' gs A l := ⟨h.sl.ext he, h.so, h.mem, h.len⟩
theorem VarsR.ext {gs : List GL} (v : Value) (w w' : World) (h : VarsR gs v w) (he : Ext w w') : VarsR gs v w' := by
  obtain ⟨A, c, l, rfl, h⟩ := h
  exact ⟨A, c, l, rfl, h.ext he⟩
set_option maxHeartbeats 2000000 in
theorem joinChecks_any (q : QL) (w : World) (hq : QAt w q) (ho : QOk q) (hM : MaxLenAt w) (hT : CellsAt w 3 0 basesV) :
    Gv Tryz.prog 4 [queryV q] w fun v w' => v = .bool true ∧ Ext w w' := by
  have hV := fun w' (he : Ext w w') => vars_any q w' (hq.ext he) ho
  have hV2 := fun w' (he : Ext w w') => refVars_any q w' (hq.ext he) ho
  have hK := fun w' (he : Ext w w') => queryCheck_any q w' (hq.ext he) ho (hM.ext he) (hT.ext he)
  have hK2 := fun w' (he : Ext w w') => refQueryCheck_any q w' (hq.ext he) ho
  have hgl := ho.gl
  refine gv (by kernel_rfl) Tryz.func4 rfl Tryz.ntmps4 rfl ?_; conv => whnf
  refine NewV.mem (Mem.nil w) ?_
  intro b w1 hm
  have hm : Mem w w1 [qB b q] := hm
  (conv => whnf)
  refine DrawV.free (by kernel_rfl) (by kernel_rfl) ?_
  (conv => whnf)
  apply StepD.still
  · intro wd hd
    (conv => whnf)
    refine LoadA.mem (Mem.call (Mem.drew hm) hd) (i := 0) rfl rfl ?_
    (conv => whnf)
    exact ⟨Ext.refl _, rfl⟩
  (conv => whnf)
  apply StepD.of (VarsR q.gs) VarsR.ext
  · intro wd hd
    (conv => whnf)
    refine CallV.of (hV wd (hm.drew.call hd).ext) ?_
    rintro v w5 ⟨A, c, l, rfl, hvs, he⟩
    exact ⟨he, A, c, l, rfl, hvs⟩
  (conv => whnf)
  apply StepD.still
  · intro wd hd
    (conv => whnf)
    refine LoadA.mem (Mem.call (Mem.drew hm) hd) (i := 0) rfl rfl ?_
    (conv => whnf)
    exact ⟨Ext.refl _, rfl⟩
  (conv => whnf)
  apply StepD.of (VarsR q.gs) VarsR.ext
  · intro wd hd
    (conv => whnf)
    intro _ _
    (conv => whnf)
    refine CallV.of (hV2 wd (hm.drew.call hd).ext) ?_
    rintro v w5 ⟨A, c, l, rfl, hvs, he⟩
    exact ⟨he, A, c, l, rfl, hvs⟩
  (conv => whnf)
  apply StepD.of (VarsR q.gs) VarsR.ext
  · intro wd hd
    (conv => whnf)
    rintro v1 hv1
    (conv => whnf)
    rintro v2 hv2
    (conv => whnf)
    rintro _ ⟨A, c, l, rfl, h⟩
    (conv => whnf)
    exact ⟨Ext.refl _, A, c, l, rfl, h⟩
  (conv => whnf)
  apply StepD.of (VarsR q.gs) VarsR.ext
  · intro wd hd
    (conv => whnf)
    rintro v1 hv1
    (conv => whnf)
    rintro v2 hv2
    (conv => whnf)
    rintro v3 hv3
    (conv => whnf)
    rintro _ ⟨A, c, l, rfl, h⟩
    (conv => whnf)
    rintro v5 hv5
    (conv => whnf)
    exact ⟨Ext.refl _, A, c, l, rfl, h⟩
  (conv => whnf)
  intro w2 he2
  (conv => whnf)
  rintro _ ⟨B, d, m, rfl, hm'⟩
  (conv => whnf)
  rintro _ ⟨A, c, l, rfl, hl⟩
  (conv => whnf)
  rintro _ _
  (conv => whnf)
  rintro _ _
  (conv => whnf)
  have hlm : l = m := sorted_same hl.so hm'.so fun x => by rw [hl.mem, hm'.mem]
  subst hlm
  have hm2 := hm.drew.call he2
  have hnum : ∀ n : Nat, decide ((n : Int) ≠ (n : Int)) = false := fun n => by simp
  refine DrawV.free (by kernel_rfl) (by kernel_rfl) ?_
  (conv => whnf)
  apply StepD.still
  · intro wd hd
    (conv => whnf)
    refine LoadA.mem (Mem.call (Mem.drew hm2) hd) (i := 0) rfl rfl ?_
    (conv => whnf)
    exact ⟨Ext.refl _, rfl⟩
  (conv => whnf)
  apply StepD.still
  · intro wd hd
    (conv => whnf)
    refine CallV.of (hK wd (hm2.drew.call hd).ext) ?_
    rintro v w5 ⟨rfl, he⟩
    exact ⟨he, rfl⟩
  (conv => whnf)
  apply StepD.still
  · intro wd hd
    (conv => whnf)
    refine LoadA.mem (Mem.call (Mem.drew hm2) hd) (i := 0) rfl rfl ?_
    (conv => whnf)
    exact ⟨Ext.refl _, rfl⟩
  (conv => whnf)
  apply StepD.still
  · intro wd hd
    (conv => whnf)
    refine CallV.of (hK2 wd (hm2.drew.call hd).ext) ?_
    rintro v w5 ⟨rfl, he⟩
    exact ⟨he, rfl⟩
  (conv => whnf)
  (apply StepD.still; (· intro wd hd; (conv => whnf); (repeat (intro _ _; (conv => whnf))); (first | exact ⟨Ext.refl _, rfl⟩ | ((repeat' (first | (refine Obl.mk ⟨by omega, by omega⟩ ?_; conv => whnf) | (refine Obl.mk ⟨by omega, by omega, ⟨by omega, by omega⟩⟩ ?_; conv => whnf) | ((with_reducible refine Tst.tt ?_); conv => whnf) | ((with_reducible refine Tst.ff ?_); conv => whnf) | ((with_reducible refine Tst.dec (fun _ => ?_) (fun _ => ?_)) <;> first | (exfalso; omega) | (conv => whnf)) | ((with_reducible refine Tst.not ?_)) | (refine Wit.conv ⟨by omega, by omega⟩ ?_; conv => whnf) | ((with_reducible refine IdxV.nat (by omega) ?_); conv => whnf) | ((with_reducible refine SameW.mk rfl ?_); conv => whnf) | ((with_reducible refine Tst.beqT ?_)) | ((with_reducible refine Tst.beqF ?_)) | (refine Tst.yes rfl ?_; conv => whnf) | (refine Tst.no rfl ?_; conv => whnf))); exact ⟨Ext.refl _, rfl⟩))); (conv => whnf))
  (apply StepD.still; (· intro wd hd; (conv => whnf); (repeat (intro _ _; (conv => whnf))); (first | exact ⟨Ext.refl _, rfl⟩ | ((repeat' (first | (refine Obl.mk ⟨by omega, by omega⟩ ?_; conv => whnf) | (refine Obl.mk ⟨by omega, by omega, ⟨by omega, by omega⟩⟩ ?_; conv => whnf) | ((with_reducible refine Tst.tt ?_); conv => whnf) | ((with_reducible refine Tst.ff ?_); conv => whnf) | ((with_reducible refine Tst.dec (fun _ => ?_) (fun _ => ?_)) <;> first | (exfalso; omega) | (conv => whnf)) | ((with_reducible refine Tst.not ?_)) | (refine Wit.conv ⟨by omega, by omega⟩ ?_; conv => whnf) | ((with_reducible refine IdxV.nat (by omega) ?_); conv => whnf) | ((with_reducible refine SameW.mk rfl ?_); conv => whnf) | ((with_reducible refine Tst.beqT ?_)) | ((with_reducible refine Tst.beqF ?_)) | (refine Tst.yes rfl ?_; conv => whnf) | (refine Tst.no rfl ?_; conv => whnf))); exact ⟨Ext.refl _, rfl⟩))); (conv => whnf))
  (apply StepD.still; (· intro wd hd; (conv => whnf); (repeat (intro _ _; (conv => whnf))); (first | exact ⟨Ext.refl _, rfl⟩ | ((repeat' (first | (refine Obl.mk ⟨by omega, by omega⟩ ?_; conv => whnf) | (refine Obl.mk ⟨by omega, by omega, ⟨by omega, by omega⟩⟩ ?_; conv => whnf) | ((with_reducible refine Tst.tt ?_); conv => whnf) | ((with_reducible refine Tst.ff ?_); conv => whnf) | ((with_reducible refine Tst.dec (fun _ => ?_) (fun _ => ?_)) <;> first | (exfalso; omega) | (conv => whnf)) | ((with_reducible refine Tst.not ?_)) | (refine Wit.conv ⟨by omega, by omega⟩ ?_; conv => whnf) | ((with_reducible refine IdxV.nat (by omega) ?_); conv => whnf) | ((with_reducible refine SameW.mk rfl ?_); conv => whnf) | ((with_reducible refine Tst.beqT ?_)) | ((with_reducible refine Tst.beqF ?_)) | (refine Tst.yes rfl ?_; conv => whnf) | (refine Tst.no rfl ?_; conv => whnf))); exact ⟨Ext.refl _, rfl⟩))); (conv => whnf))
  (apply StepD.still; (· intro wd hd; (conv => whnf); (repeat (intro _ _; (conv => whnf))); (first | exact ⟨Ext.refl _, rfl⟩ | ((repeat' (first | (refine Obl.mk ⟨by omega, by omega⟩ ?_; conv => whnf) | (refine Obl.mk ⟨by omega, by omega, ⟨by omega, by omega⟩⟩ ?_; conv => whnf) | ((with_reducible refine Tst.tt ?_); conv => whnf) | ((with_reducible refine Tst.ff ?_); conv => whnf) | ((with_reducible refine Tst.dec (fun _ => ?_) (fun _ => ?_)) <;> first | (exfalso; omega) | (conv => whnf)) | ((with_reducible refine Tst.not ?_)) | (refine Wit.conv ⟨by omega, by omega⟩ ?_; conv => whnf) | ((with_reducible refine IdxV.nat (by omega) ?_); conv => whnf) | ((with_reducible refine SameW.mk rfl ?_); conv => whnf) | ((with_reducible refine Tst.beqT ?_)) | ((with_reducible refine Tst.beqF ?_)) | (refine Tst.yes rfl ?_; conv => whnf) | (refine Tst.no rfl ?_; conv => whnf))); exact ⟨Ext.refl _, rfl⟩))); (conv => whnf))
  (apply StepD.still; (· intro wd hd; (conv => whnf); (repeat (intro _ _; (conv => whnf))); (first | exact ⟨Ext.refl _, rfl⟩ | ((repeat' (first | (refine Obl.mk ⟨by omega, by omega⟩ ?_; conv => whnf) | (refine Obl.mk ⟨by omega, by omega, ⟨by omega, by omega⟩⟩ ?_; conv => whnf) | ((with_reducible refine Tst.tt ?_); conv => whnf) | ((with_reducible refine Tst.ff ?_); conv => whnf) | ((with_reducible refine Tst.dec (fun _ => ?_) (fun _ => ?_)) <;> first | (exfalso; omega) | (conv => whnf)) | ((with_reducible refine Tst.not ?_)) | (refine Wit.conv ⟨by omega, by omega⟩ ?_; conv => whnf) | ((with_reducible refine IdxV.nat (by omega) ?_); conv => whnf) | ((with_reducible refine SameW.mk rfl ?_); conv => whnf) | ((with_reducible refine Tst.beqT ?_)) | ((with_reducible refine Tst.beqF ?_)) | (refine Tst.yes rfl ?_; conv => whnf) | (refine Tst.no rfl ?_; conv => whnf))); exact ⟨Ext.refl _, rfl⟩))); (conv => whnf))
  (apply StepD.still; (· intro wd hd; (conv => whnf); (repeat (intro _ _; (conv => whnf))); (first | exact ⟨Ext.refl _, rfl⟩ | ((repeat' (first | (refine Obl.mk ⟨by omega, by omega⟩ ?_; conv => whnf) | (refine Obl.mk ⟨by omega, by omega, ⟨by omega, by omega⟩⟩ ?_; conv => whnf) | ((with_reducible refine Tst.tt ?_); conv => whnf) | ((with_reducible refine Tst.ff ?_); conv => whnf) | ((with_reducible refine Tst.dec (fun _ => ?_) (fun _ => ?_)) <;> first | (exfalso; omega) | (conv => whnf)) | ((with_reducible refine Tst.not ?_)) | (refine Wit.conv ⟨by omega, by omega⟩ ?_; conv => whnf) | ((with_reducible refine IdxV.nat (by omega) ?_); conv => whnf) | ((with_reducible refine SameW.mk rfl ?_); conv => whnf) | ((with_reducible refine Tst.beqT ?_)) | ((with_reducible refine Tst.beqF ?_)) | (refine Tst.yes rfl ?_; conv => whnf) | (refine Tst.no rfl ?_; conv => whnf))); exact ⟨Ext.refl _, rfl⟩))); (conv => whnf))
  (apply StepD.still; (· intro wd hd; (conv => whnf); (repeat (intro _ _; (conv => whnf))); (first | exact ⟨Ext.refl _, rfl⟩ | ((repeat' (first | (refine Obl.mk ⟨by omega, by omega⟩ ?_; conv => whnf) | (refine Obl.mk ⟨by omega, by omega, ⟨by omega, by omega⟩⟩ ?_; conv => whnf) | ((with_reducible refine Tst.tt ?_); conv => whnf) | ((with_reducible refine Tst.ff ?_); conv => whnf) | ((with_reducible refine Tst.dec (fun _ => ?_) (fun _ => ?_)) <;> first | (exfalso; omega) | (conv => whnf)) | ((with_reducible refine Tst.not ?_)) | (refine Wit.conv ⟨by omega, by omega⟩ ?_; conv => whnf) | ((with_reducible refine IdxV.nat (by omega) ?_); conv => whnf) | ((with_reducible refine SameW.mk rfl ?_); conv => whnf) | ((with_reducible refine Tst.beqT ?_)) | ((with_reducible refine Tst.beqF ?_)) | (refine Tst.yes rfl ?_; conv => whnf) | (refine Tst.no rfl ?_; conv => whnf))); exact ⟨Ext.refl _, rfl⟩))); (conv => whnf))
  (apply StepD.still; (· intro wd hd; (conv => whnf); (repeat (intro _ _; (conv => whnf))); (first | exact ⟨Ext.refl _, rfl⟩ | ((repeat' (first | (refine Obl.mk ⟨by omega, by omega⟩ ?_; conv => whnf) | (refine Obl.mk ⟨by omega, by omega, ⟨by omega, by omega⟩⟩ ?_; conv => whnf) | ((with_reducible refine Tst.tt ?_); conv => whnf) | ((with_reducible refine Tst.ff ?_); conv => whnf) | ((with_reducible refine Tst.dec (fun _ => ?_) (fun _ => ?_)) <;> first | (exfalso; omega) | (conv => whnf)) | ((with_reducible refine Tst.not ?_)) | (refine Wit.conv ⟨by omega, by omega⟩ ?_; conv => whnf) | ((with_reducible refine IdxV.nat (by omega) ?_); conv => whnf) | ((with_reducible refine SameW.mk rfl ?_); conv => whnf) | ((with_reducible refine Tst.beqT ?_)) | ((with_reducible refine Tst.beqF ?_)) | (refine Tst.yes rfl ?_; conv => whnf) | (refine Tst.no rfl ?_; conv => whnf))); exact ⟨Ext.refl _, rfl⟩))); (conv => whnf))
  intro w3 he3
  have hm3 := hm2.drew.call he3
  have hl3 : SlAt V.encS 1 w3 A l := hl.sl.ext ((Ext.refl w2).drew.trans he3)
  have hr3 : SlAt V.encS 1 w3 B l := hm'.sl.ext ((Ext.refl w2).drew.trans he3)
  (conv => whnf)
  (repeat' (first
      | (refine Obl.mk ⟨by omega, by omega⟩ ?_; conv => whnf)
      | (refine Obl.mk ⟨by omega, by omega, ⟨by omega, by omega⟩⟩ ?_; conv => whnf)
      | ((with_reducible refine Tst.tt ?_); conv => whnf)
      | ((with_reducible refine Tst.ff ?_); conv => whnf)
      | ((with_reducible refine Tst.dec (fun _ => ?_) (fun _ => ?_)) <;> first | (exfalso; omega) | (conv => whnf))
      | ((with_reducible refine Tst.not ?_))
      | (refine Wit.conv ⟨by omega, by omega⟩ ?_; conv => whnf)
      | ((with_reducible refine IdxV.nat (by omega) ?_); conv => whnf)
      | ((with_reducible refine SameW.mk rfl ?_); conv => whnf)
      | (refine LoadV.mem (i := 0) (by assumption) rfl rfl ?_; conv => whnf)
      | (refine LoadV.mem (i := 1) (by assumption) rfl rfl ?_; conv => whnf)
      | (refine LoadV.mem (i := 2) (by assumption) rfl rfl ?_; conv => whnf)
      | ((with_reducible refine Tst.beqT ?_))
      | ((with_reducible refine Tst.beqF ?_))
      | (refine Tst.yes rfl ?_; conv => whnf)
      | (refine Tst.no rfl ?_; conv => whnf)))
  have hln := hl.len
  refine loopV (fun i : Nat => [(2, .bool false), (3, .slice A l.length c), (4, .slice B l.length d), (5, .int .i64 i)])
    (fun i w' => i ≤ l.length ∧ Ext w3 w') (fun i => l.length - i) 0 ⟨rfl, rfl, rfl, rfl, trivial⟩ ⟨by omega, Ext.refl _⟩ ?_
  rintro i w4 ρ' ⟨i1, he4⟩
  (conv => whnf)
  (repeat' (first
      | (refine Obl.mk ⟨by omega, by omega⟩ ?_; conv => whnf)
      | (refine Obl.mk ⟨by omega, by omega, ⟨by omega, by omega⟩⟩ ?_; conv => whnf)
      | ((with_reducible refine Tst.tt ?_); conv => whnf)
      | ((with_reducible refine Tst.ff ?_); conv => whnf)
      | ((with_reducible refine Tst.dec (fun _ => ?_) (fun _ => ?_)) <;> first | (exfalso; omega) | (conv => whnf))
      | ((with_reducible refine Tst.not ?_))
      | (refine Wit.conv ⟨by omega, by omega⟩ ?_; conv => whnf)
      | ((with_reducible refine IdxV.nat (by omega) ?_); conv => whnf)
      | ((with_reducible refine SameW.mk rfl ?_); conv => whnf)
      | (refine LoadV.mem (i := 0) (by assumption) rfl rfl ?_; conv => whnf)
      | (refine LoadV.mem (i := 1) (by assumption) rfl rfl ?_; conv => whnf)
      | (refine LoadV.mem (i := 2) (by assumption) rfl rfl ?_; conv => whnf)
      | ((with_reducible refine Tst.beqT ?_))
      | ((with_reducible refine Tst.beqF ?_))
      | (refine Tst.yes rfl ?_; conv => whnf)
      | (refine Tst.no rfl ?_; conv => whnf)))
  · have hi : i < l.length := by omega
    have hd := he4.trans (Ext.refl w4).drew
    refine DrawV.quiet (by kernel_rfl) (by kernel_rfl) ?_; conv => whnf
    (repeat' (first
      | (refine Obl.mk ⟨by omega, by omega⟩ ?_; conv => whnf)
      | (refine Obl.mk ⟨by omega, by omega, ⟨by omega, by omega⟩⟩ ?_; conv => whnf)
      | ((with_reducible refine Tst.tt ?_); conv => whnf)
      | ((with_reducible refine Tst.ff ?_); conv => whnf)
      | ((with_reducible refine Tst.dec (fun _ => ?_) (fun _ => ?_)) <;> first | (exfalso; omega) | (conv => whnf))
      | ((with_reducible refine Tst.not ?_))
      | (refine Wit.conv ⟨by omega, by omega⟩ ?_; conv => whnf)
      | ((with_reducible refine IdxV.nat (by omega) ?_); conv => whnf)
      | ((with_reducible refine SameW.mk rfl ?_); conv => whnf)
      | (refine LoadV.mem (i := 0) (by assumption) rfl rfl ?_; conv => whnf)
      | (refine LoadV.mem (i := 1) (by assumption) rfl rfl ?_; conv => whnf)
      | (refine LoadV.mem (i := 2) (by assumption) rfl rfl ?_; conv => whnf)
      | ((with_reducible refine Tst.beqT ?_))
      | ((with_reducible refine Tst.beqF ?_))
      | (refine Tst.yes rfl ?_; conv => whnf)
      | (refine Tst.no rfl ?_; conv => whnf)))
    refine ElemV.sl (hl3.ext hd) rfl i rfl hi ?_
    intro eb eo hc
    (conv => whnf)
    (repeat' (first
      | (refine Obl.mk ⟨by omega, by omega⟩ ?_; conv => whnf)
      | (refine Obl.mk ⟨by omega, by omega, ⟨by omega, by omega⟩⟩ ?_; conv => whnf)
      | ((with_reducible refine Tst.tt ?_); conv => whnf)
      | ((with_reducible refine Tst.ff ?_); conv => whnf)
      | ((with_reducible refine Tst.dec (fun _ => ?_) (fun _ => ?_)) <;> first | (exfalso; omega) | (conv => whnf))
      | ((with_reducible refine Tst.not ?_))
      | (refine Wit.conv ⟨by omega, by omega⟩ ?_; conv => whnf)
      | ((with_reducible refine IdxV.nat (by omega) ?_); conv => whnf)
      | ((with_reducible refine SameW.mk rfl ?_); conv => whnf)
      | (refine LoadV.mem (i := 0) (by assumption) rfl rfl ?_; conv => whnf)
      | (refine LoadV.mem (i := 1) (by assumption) rfl rfl ?_; conv => whnf)
      | (refine LoadV.mem (i := 2) (by assumption) rfl rfl ?_; conv => whnf)
      | ((with_reducible refine Tst.beqT ?_))
      | ((with_reducible refine Tst.beqF ?_))
      | (refine Tst.yes rfl ?_; conv => whnf)
      | (refine Tst.no rfl ?_; conv => whnf)))
    refine LoadV.cell0 hc ?_
    (conv => whnf)
    (repeat' (first
      | (refine Obl.mk ⟨by omega, by omega⟩ ?_; conv => whnf)
      | (refine Obl.mk ⟨by omega, by omega, ⟨by omega, by omega⟩⟩ ?_; conv => whnf)
      | ((with_reducible refine Tst.tt ?_); conv => whnf)
      | ((with_reducible refine Tst.ff ?_); conv => whnf)
      | ((with_reducible refine Tst.dec (fun _ => ?_) (fun _ => ?_)) <;> first | (exfalso; omega) | (conv => whnf))
      | ((with_reducible refine Tst.not ?_))
      | (refine Wit.conv ⟨by omega, by omega⟩ ?_; conv => whnf)
      | ((with_reducible refine IdxV.nat (by omega) ?_); conv => whnf)
      | ((with_reducible refine SameW.mk rfl ?_); conv => whnf)
      | (refine LoadV.mem (i := 0) (by assumption) rfl rfl ?_; conv => whnf)
      | (refine LoadV.mem (i := 1) (by assumption) rfl rfl ?_; conv => whnf)
      | (refine LoadV.mem (i := 2) (by assumption) rfl rfl ?_; conv => whnf)
      | ((with_reducible refine Tst.beqT ?_))
      | ((with_reducible refine Tst.beqF ?_))
      | (refine Tst.yes rfl ?_; conv => whnf)
      | (refine Tst.no rfl ?_; conv => whnf)))
    refine ElemV.sl (hr3.ext hd) rfl i rfl hi ?_
    intro eb2 eo2 hc2
    (conv => whnf)
    (repeat' (first
      | (refine Obl.mk ⟨by omega, by omega⟩ ?_; conv => whnf)
      | (refine Obl.mk ⟨by omega, by omega, ⟨by omega, by omega⟩⟩ ?_; conv => whnf)
      | ((with_reducible refine Tst.tt ?_); conv => whnf)
      | ((with_reducible refine Tst.ff ?_); conv => whnf)
      | ((with_reducible refine Tst.dec (fun _ => ?_) (fun _ => ?_)) <;> first | (exfalso; omega) | (conv => whnf))
      | ((with_reducible refine Tst.not ?_))
      | (refine Wit.conv ⟨by omega, by omega⟩ ?_; conv => whnf)
      | ((with_reducible refine IdxV.nat (by omega) ?_); conv => whnf)
      | ((with_reducible refine SameW.mk rfl ?_); conv => whnf)
      | (refine LoadV.mem (i := 0) (by assumption) rfl rfl ?_; conv => whnf)
      | (refine LoadV.mem (i := 1) (by assumption) rfl rfl ?_; conv => whnf)
      | (refine LoadV.mem (i := 2) (by assumption) rfl rfl ?_; conv => whnf)
      | ((with_reducible refine Tst.beqT ?_))
      | ((with_reducible refine Tst.beqF ?_))
      | (refine Tst.yes rfl ?_; conv => whnf)
      | (refine Tst.no rfl ?_; conv => whnf)))
    refine LoadV.cell0 hc2 ?_
    (conv => whnf)
    (repeat' (first
      | (refine Obl.mk ⟨by omega, by omega⟩ ?_; conv => whnf)
      | (refine Obl.mk ⟨by omega, by omega, ⟨by omega, by omega⟩⟩ ?_; conv => whnf)
      | ((with_reducible refine Tst.tt ?_); conv => whnf)
      | ((with_reducible refine Tst.ff ?_); conv => whnf)
      | ((with_reducible refine Tst.dec (fun _ => ?_) (fun _ => ?_)) <;> first | (exfalso; omega) | (conv => whnf))
      | ((with_reducible refine Tst.not ?_))
      | (refine Wit.conv ⟨by omega, by omega⟩ ?_; conv => whnf)
      | ((with_reducible refine IdxV.nat (by omega) ?_); conv => whnf)
      | ((with_reducible refine SameW.mk rfl ?_); conv => whnf)
      | (refine LoadV.mem (i := 0) (by assumption) rfl rfl ?_; conv => whnf)
      | (refine LoadV.mem (i := 1) (by assumption) rfl rfl ?_; conv => whnf)
      | (refine LoadV.mem (i := 2) (by assumption) rfl rfl ?_; conv => whnf)
      | ((with_reducible refine Tst.beqT ?_))
      | ((with_reducible refine Tst.beqF ?_))
      | (refine Tst.yes rfl ?_; conv => whnf)
      | (refine Tst.no rfl ?_; conv => whnf)))
    refine Tst.yes (seq_iff.2 rfl) ?_
    (conv => whnf)
    (repeat' (first
      | (refine Obl.mk ⟨by omega, by omega⟩ ?_; conv => whnf)
      | (refine Obl.mk ⟨by omega, by omega, ⟨by omega, by omega⟩⟩ ?_; conv => whnf)
      | ((with_reducible refine Tst.tt ?_); conv => whnf)
      | ((with_reducible refine Tst.ff ?_); conv => whnf)
      | ((with_reducible refine Tst.dec (fun _ => ?_) (fun _ => ?_)) <;> first | (exfalso; omega) | (conv => whnf))
      | ((with_reducible refine Tst.not ?_))
      | (refine Wit.conv ⟨by omega, by omega⟩ ?_; conv => whnf)
      | ((with_reducible refine IdxV.nat (by omega) ?_); conv => whnf)
      | ((with_reducible refine SameW.mk rfl ?_); conv => whnf)
      | (refine LoadV.mem (i := 0) (by assumption) rfl rfl ?_; conv => whnf)
      | (refine LoadV.mem (i := 1) (by assumption) rfl rfl ?_; conv => whnf)
      | (refine LoadV.mem (i := 2) (by assumption) rfl rfl ?_; conv => whnf)
      | ((with_reducible refine Tst.beqT ?_))
      | ((with_reducible refine Tst.beqF ?_))
      | (refine Tst.yes rfl ?_; conv => whnf)
      | (refine Tst.no rfl ?_; conv => whnf)))
    exact ⟨i + 1, ⟨rfl, rfl, rfl, rfl, trivial⟩, ⟨by omega, hd⟩, by omega⟩
  · exact ⟨rfl, hm3.ext.trans he4⟩
end Go.Proofs.YtajgbepghniciaaGreatDoor
namespace Go.Proofs.YtajgbepghniciaaGreatDoor
open Go.ChangeShapes Go.WideShapes Go.RowKit V
set_option maxRecDepth 100000
theorem cellsTerm : Tryz.prog.cellsOf 73 = 4 := by kernel_rfl
theorem cellsSlot : Tryz.prog.cellsOf 88 = 5 := by kernel_rfl
theorem cellsGoal : Tryz.prog.cellsOf 90 = 20 := by kernel_rfl
theorem cellsTest : Tryz.prog.cellsOf 106 = 11 := by kernel_rfl
theorem cellsOrder : Tryz.prog.cellsOf 110 = 2 := by kernel_rfl
theorem cellsQuery : Tryz.prog.cellsOf 40 = 7 := by kernel_rfl
theorem cellsGoals : Tryz.prog.cellsOf 35 = 1 := by kernel_rfl
theorem cellsTests : Tryz.prog.cellsOf 36 = 1 := by kernel_rfl
theorem cellsOrders : Tryz.prog.cellsOf 38 = 1 := by kernel_rfl
theorem cellsBool : Tryz.prog.cellsOf 4 = 1 := by kernel_rfl
section
variable {H : Type} {enc : TypeId × Value → H} {W : World}
theorem opb_string {c : Value} (h : OpB enc Tryz.prog W 9 [c]) : ∃ s : ByteArray, c = .string s ∧ s.size ≤ 1048576 := h.string Tryz.underlying9
theorem opb_int {c : Value} (h : OpB enc Tryz.prog W 3 [c]) : ∃ n : Int, c = .int .i64 n ∧ InR .i64 n := h.int Tryz.underlying3
theorem opb_bool {c : Value} (h : OpB enc Tryz.prog W 4 [c]) : ∃ b : Bool, c = .bool b := h.bool Tryz.underlying4
theorem opb_term {cs : List Value} (h : OpB enc Tryz.prog W 73 cs) : ∃ t : TM, cs = encT t ∧ TermOk t := by
  obtain ⟨hl, hf⟩ := OpB.fields Tryz.underlying73 h
  rw [cellsTerm] at hl
  match cs, hl with
  | [c0, c1, c2, c3], _ =>
    have g0 : OpB enc Tryz.prog W 3 (([c0, c1, c2, c3].drop 0).take (Tryz.prog.cellsOf 3)) := hf 0 _ rfl
    rw [cellsInt] at g0
    have g1 : OpB enc Tryz.prog W 9 (([c0, c1, c2, c3].drop 1).take (Tryz.prog.cellsOf 9)) := hf 1 _ rfl
    rw [cellsStr] at g1
    have g2 : OpB enc Tryz.prog W 9 (([c0, c1, c2, c3].drop 2).take (Tryz.prog.cellsOf 9)) := hf 2 _ rfl
    rw [cellsStr] at g2
    have g3 : OpB enc Tryz.prog W 9 (([c0, c1, c2, c3].drop 3).take (Tryz.prog.cellsOf 9)) := hf 3 _ rfl
    rw [cellsStr] at g3
    obtain ⟨n0, rfl, k0⟩ := opb_int (c := c0) g0
    obtain ⟨n1, rfl, k1⟩ := opb_string (c := c1) g1
    obtain ⟨n2, rfl, k2⟩ := opb_string (c := c2) g2
    obtain ⟨n3, rfl, k3⟩ := opb_string (c := c3) g3
    exact ⟨⟨n0, n1, n2, n3⟩, rfl, ⟨k0, k1, k2, k3⟩⟩
theorem opb_slot {cs : List Value} (h : OpB enc Tryz.prog W 88 cs) : ∃ s : SL, cs = slC s ∧ SlotOk s := by
  obtain ⟨hl, hf⟩ := OpB.fields Tryz.underlying88 h
  rw [cellsSlot] at hl
  match cs, hl with
  | [c0, c1, c2, c3, c4], _ =>
    have g0 : OpB enc Tryz.prog W 9 (([c0, c1, c2, c3, c4].drop 0).take (Tryz.prog.cellsOf 9)) := hf 0 _ rfl
    rw [cellsStr] at g0
    have g1 : OpB enc Tryz.prog W 73 (([c0, c1, c2, c3, c4].drop 1).take (Tryz.prog.cellsOf 73)) := hf 1 _ rfl
    rw [cellsTerm] at g1
    obtain ⟨n0, rfl, k0⟩ := opb_string (c := c0) g0
    obtain ⟨t, e, k1⟩ := opb_term (cs := [c1, c2, c3, c4]) g1
    simp only [encT, List.cons.injEq] at e
    obtain ⟨rfl, rfl, rfl, rfl, _⟩ := e
    exact ⟨⟨n0, t⟩, rfl, ⟨k0, k1⟩⟩
theorem opb_goal {cs : List Value} (h : OpB enc Tryz.prog W 90 cs) : ∃ g : GL, cs = goC g ∧ GoalOk g := by
  obtain ⟨hl, hf⟩ := OpB.fields Tryz.underlying90 h
  rw [cellsGoal] at hl
  match cs, hl with
  | [c0, c1, c2, c3, c4, d0, d1, d2, d3, d4, e0, e1, e2, e3, e4, f0, f1, f2, f3, f4], _ =>
    have g0 : OpB enc Tryz.prog W 88 (([c0, c1, c2, c3, c4, d0, d1, d2, d3, d4, e0, e1, e2, e3, e4, f0, f1, f2, f3, f4].drop 0).take (Tryz.prog.cellsOf 88)) := hf 0 _ rfl
    rw [cellsSlot] at g0
    have g1 : OpB enc Tryz.prog W 88 (([c0, c1, c2, c3, c4, d0, d1, d2, d3, d4, e0, e1, e2, e3, e4, f0, f1, f2, f3, f4].drop 5).take (Tryz.prog.cellsOf 88)) := hf 1 _ rfl
    rw [cellsSlot] at g1
    have g2 : OpB enc Tryz.prog W 88 (([c0, c1, c2, c3, c4, d0, d1, d2, d3, d4, e0, e1, e2, e3, e4, f0, f1, f2, f3, f4].drop 10).take (Tryz.prog.cellsOf 88)) := hf 2 _ rfl
    rw [cellsSlot] at g2
    have g3 : OpB enc Tryz.prog W 88 (([c0, c1, c2, c3, c4, d0, d1, d2, d3, d4, e0, e1, e2, e3, e4, f0, f1, f2, f3, f4].drop 15).take (Tryz.prog.cellsOf 88)) := hf 3 _ rfl
    rw [cellsSlot] at g3
    obtain ⟨s0, q0, k0⟩ := opb_slot (cs := [c0, c1, c2, c3, c4]) g0
    obtain ⟨s1, q1, k1⟩ := opb_slot (cs := [d0, d1, d2, d3, d4]) g1
    obtain ⟨s2, q2, k2⟩ := opb_slot (cs := [e0, e1, e2, e3, e4]) g2
    obtain ⟨s3, q3, k3⟩ := opb_slot (cs := [f0, f1, f2, f3, f4]) g3
    simp only [slC, List.cons.injEq] at q0 q1 q2 q3
    obtain ⟨rfl, rfl, rfl, rfl, rfl, _⟩ := q0
    obtain ⟨rfl, rfl, rfl, rfl, rfl, _⟩ := q1
    obtain ⟨rfl, rfl, rfl, rfl, rfl, _⟩ := q2
    obtain ⟨rfl, rfl, rfl, rfl, rfl, _⟩ := q3
    refine ⟨⟨s0, s1, s2, s3⟩, rfl, fun k => ?_⟩
    match k with
    | 0 => exact k0
    | 1 => exact k1
    | 2 => exact k2
    | k + 3 => exact k3
theorem opb_test {cs : List Value} (h : OpB enc Tryz.prog W 106 cs) : ∃ t : TS, cs = tsC t ∧ (SlotOk t.l ∧ SlotOk t.r ∧ InR .i64 t.op) := by
  obtain ⟨hl, hf⟩ := OpB.fields Tryz.underlying106 h
  rw [cellsTest] at hl
  match cs, hl with
  | [a, c0, c1, c2, c3, c4, d0, d1, d2, d3, d4], _ =>
    have g : OpB enc Tryz.prog W 3 (([a, c0, c1, c2, c3, c4, d0, d1, d2, d3, d4].drop 0).take (Tryz.prog.cellsOf 3)) := hf 0 _ rfl
    rw [cellsInt] at g
    have g0 : OpB enc Tryz.prog W 88 (([a, c0, c1, c2, c3, c4, d0, d1, d2, d3, d4].drop 1).take (Tryz.prog.cellsOf 88)) := hf 1 _ rfl
    rw [cellsSlot] at g0
    have g1 : OpB enc Tryz.prog W 88 (([a, c0, c1, c2, c3, c4, d0, d1, d2, d3, d4].drop 6).take (Tryz.prog.cellsOf 88)) := hf 2 _ rfl
    rw [cellsSlot] at g1
    obtain ⟨n, rfl, k⟩ := opb_int (c := a) g
    obtain ⟨s0, q0, k0⟩ := opb_slot (cs := [c0, c1, c2, c3, c4]) g0
    obtain ⟨s1, q1, k1⟩ := opb_slot (cs := [d0, d1, d2, d3, d4]) g1
    simp only [slC, List.cons.injEq] at q0 q1
    obtain ⟨rfl, rfl, rfl, rfl, rfl, _⟩ := q0
    obtain ⟨rfl, rfl, rfl, rfl, rfl, _⟩ := q1
    exact ⟨⟨n, s0, s1⟩, rfl, k0, k1, k⟩
theorem opb_order {cs : List Value} (h : OpB enc Tryz.prog W 110 cs) : ∃ o : OL, cs = olC o ∧ True := by
  obtain ⟨hl, hf⟩ := OpB.fields Tryz.underlying110 h
  rw [cellsOrder] at hl
  match cs, hl with
  | [a, b], _ =>
    have g0 : OpB enc Tryz.prog W 9 (([a, b].drop 0).take (Tryz.prog.cellsOf 9)) := hf 0 _ rfl
    rw [cellsStr] at g0
    have g1 : OpB enc Tryz.prog W 4 (([a, b].drop 1).take (Tryz.prog.cellsOf 4)) := hf 1 _ rfl
    rw [cellsBool] at g1
    obtain ⟨n, rfl, k⟩ := opb_string (c := a) g0
    obtain ⟨m, rfl⟩ := opb_bool (c := b) g1
    exact ⟨⟨n, m⟩, rfl, trivial⟩
instance : Inhabited TM := ⟨⟨0, ⟨#[]⟩, ⟨#[]⟩, ⟨#[]⟩⟩⟩
instance : Inhabited SL := ⟨⟨⟨#[]⟩, default⟩⟩
instance : Inhabited GL := ⟨⟨default, default, default, default⟩⟩
instance : Inhabited TS := ⟨⟨0, default, default⟩⟩
instance : Inhabited OL := ⟨⟨⟨#[]⟩, false⟩⟩
theorem opb_query {cs : List Value} (h : OpB enc Tryz.prog W 40 cs) : ∃ q : QL, Value.agg cs.toArray = queryV q ∧ QAt W q ∧ QOk q := by
  obtain ⟨hl, hf⟩ := OpB.fields Tryz.underlying40 h
  rw [cellsQuery] at hl
  match cs, hl with
  | [c0, c1, c2, c3, c4, c5, c6], _ =>
    have g0 : OpB enc Tryz.prog W 35 (([c0, c1, c2, c3, c4, c5, c6].drop 0).take (Tryz.prog.cellsOf 35)) := hf 0 _ rfl
    rw [cellsGoals] at g0
    have g1 : OpB enc Tryz.prog W 36 (([c0, c1, c2, c3, c4, c5, c6].drop 1).take (Tryz.prog.cellsOf 36)) := hf 1 _ rfl
    rw [cellsTests] at g1
    have g2 : OpB enc Tryz.prog W 37 (([c0, c1, c2, c3, c4, c5, c6].drop 2).take (Tryz.prog.cellsOf 37)) := hf 2 _ rfl
    rw [cellsStrs] at g2
    have g3 : OpB enc Tryz.prog W 4 (([c0, c1, c2, c3, c4, c5, c6].drop 3).take (Tryz.prog.cellsOf 4)) := hf 3 _ rfl
    rw [cellsBool] at g3
    have g4 : OpB enc Tryz.prog W 38 (([c0, c1, c2, c3, c4, c5, c6].drop 4).take (Tryz.prog.cellsOf 38)) := hf 4 _ rfl
    rw [cellsOrders] at g4
    have g5 : OpB enc Tryz.prog W 3 (([c0, c1, c2, c3, c4, c5, c6].drop 5).take (Tryz.prog.cellsOf 3)) := hf 5 _ rfl
    rw [cellsInt] at g5
    have g6 : OpB enc Tryz.prog W 3 (([c0, c1, c2, c3, c4, c5, c6].drop 6).take (Tryz.prog.cellsOf 3)) := hf 6 _ rfl
    rw [cellsInt] at g6
    obtain ⟨ga, gc, gs, rfl, _, gl, gr, gat⟩ := OpB.slice (c := c0) (en := goC) (R := GoalOk) (size := 20) Tryz.underlying35 cellsGoal (by decide) (fun _ => rfl) (fun cs hc => opb_goal hc) g0
    obtain ⟨ta, tc, ts, rfl, _, tl, tr, tat⟩ := OpB.slice (c := c1) (en := tsC) (R := fun t => SlotOk t.l ∧ SlotOk t.r ∧ InR .i64 t.op) (size := 11) Tryz.underlying36 cellsTest (by decide) (fun _ => rfl) (fun cs hc => opb_test hc) g1
    obtain ⟨sa, sc, ss, rfl, _, sl, _, sat⟩ := OpB.slice (c := c2) (en := V.encS) (R := fun _ => True) (size := 1) Tryz.underlying37 cellsStr (by decide) (fun _ => rfl) (fun cs hc => by
      obtain ⟨n, d, ps, h1, h2⟩ := id hc.h
      obtain ⟨s, rfl, _, _⟩ := DataW.trod_string Tryz.underlying9 h1
      exact ⟨s, rfl, trivial⟩) g2
    obtain ⟨di, rfl⟩ := opb_bool (c := c3) g3
    obtain ⟨oa, oc, os, rfl, _, ol, _, oat⟩ := OpB.slice (c := c4) (en := olC) (R := fun _ => True) (size := 2) Tryz.underlying38 cellsOrder (by decide) (fun _ => rfl) (fun cs hc => opb_order hc) g4
    obtain ⟨sk, rfl, _⟩ := opb_int (c := c5) g5
    obtain ⟨li, rfl, _⟩ := opb_int (c := c6) g6
    exact ⟨⟨ga, gc, gs, ta, tc, ts, sa, sc, ss, di, oa, oc, os, sk, li⟩, rfl, ⟨gat, tat, sat, oat⟩, ⟨gr, tr, gl, tl, sl, ol⟩⟩
end
end Go.Proofs.YtajgbepghniciaaGreatDoor
namespace Go.Proofs.YtajgbepghniciaaGreatDoor
open Go.RowKit
namespace V
theorem laid_mem {P : Program} {w : World} : ∀ {l : List (String × DataW Unit)} {ps : List MemPlace}, DataW.LaidVars P w l ps → ∀ {n : String} {d : DataW Unit}, (n, d) ∈ l →
    ∃ g t cs fuel p, P.globalNamed n = some g ∧ (P.globals[g]?).map (·.type) = some t ∧ w.var? P n = some cs ∧ DataW.trod (fun _ => ()) P w 0 (fun _ => true) false fuel t cs.toList = some (d, p)
  | [], _, _, _, _, h => by cases h
  | (n0, d0) :: r, ps, h, n, d, hm => by
    obtain ⟨g, t, cs, fuel, p, q, h1, h2, h3, h4, h5, _⟩ := h
    rcases List.mem_cons.1 hm with e | hm
    · cases e
      exact ⟨g, t, cs, fuel, p, h1, h2, h3, h4⟩
    · exact laid_mem h5 hm
/-- an array of numbers on the list -/
theorem laid_tab {P : Program} {W : World} {name : String} {k : IntKind} {zs : List Int} {l : List (String × DataW Unit)} {g : Nat} {t e : TypeId} {n : Nat}
    (hg : P.globalNamed name = some g) (hty : (P.globals[g]?).map (·.type) = some t) (ht : P.underlying t = some (.array n e)) (he : P.underlying e = some (.int k)) (hce : P.cellsOf e = 1) (hct : P.cellsOf t = n)
    (h : laidMet P l W) (hm : (name, Lib.tabData k zs) ∈ l) : CellsAt W g 0 (zs.map fun z => Value.int k z) := by
  obtain ⟨ps, h, _⟩ := h
  obtain ⟨g', t', cs, fuel, p, hg', ht', hvar, hd⟩ := laid_mem h hm
  obtain rfl := Option.some.inj (hg.symm.trans hg')
  obtain rfl := Option.some.inj (hty.symm.trans ht')
  have hT : Lib.TabIs P W name k zs := by
    unfold Lib.TabIs
    rw [hvar, ← Lib.cells_of_tab ht he hce hct hd]
  intro i v hv
  have hi : i < zs.length := by simpa using (List.getElem?_eq_some_iff.1 hv).1
  have := hT.cell hg i hi
  rw [Nat.zero_add, this]
  rw [List.getElem?_map, List.getElem?_eq_getElem hi] at hv
  rw [List.getD_eq_getElem?_getD, List.getElem?_eq_getElem hi]
  simpa using hv
end V
end Go.Proofs.YtajgbepghniciaaGreatDoor
namespace Go.Proofs.YtajgbepghniciaaGreatDoor
open Go.ChangeShapes Go.WideShapes Go.ChangeAt Go.RowKit

theorem own : ownKnob Tryz.prog.godebug = none := by kernel_rfl
theorem laidOut' : laidOutB Tryz.prog = true := by kernel_rfl
mutual
/-- a datum's cells, where it is a number or a row of such -/
def cellsD : DataW Unit → List Value
  | .lit (.int k n) => [.int k n]
  | .agg l => cellsDs l
  | _ => []
def cellsDs : List (DataW Unit) → List Value
  | [] => []
  | d :: l => cellsD d ++ cellsDs l
end
def layOne (w : World) (x : Nat × DataW Unit) : World :=
  { w with heap := w.heap.modify x.1 fun
      | .cells _ t frozen => .cells (cellsD x.2).toArray t frozen
      | o => o }
noncomputable def layAll (os : Os) (l : List (Nat × DataW Unit)) : World := l.foldl layOne (World.holding Tryz.prog os ⟨#[], #[], []⟩)
noncomputable def witW (os : Os) : World := layAll os [(6, Rows.laid_unicode_utf8_acceptRanges), (3, Rows.laid_tessera_names_basesTable), (5, Rows.laid_unicode_utf8_first)]
end Go.Proofs.YtajgbepghniciaaGreatDoor
