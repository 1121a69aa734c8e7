/- The document's path Check. -/
import Derived.Test.YtajgbepghniciaaGreatDoorRef22
namespace Go.Proofs.YtajgbepghniciaaGreatDoor
open Go.RowKit V
set_option maxRecDepth 100000

namespace V
theorem Rw.join {w0 w w' : World} {v : Value} {e : TypeId} {size n : Nat} {xs : List Value} {L L2 : List (Nat × Obj)} (h : Rw w0 w v e size n xs L) (hm : Mem w w' L2) : Rw w0 w' v e size n xs (L2 ++ L) := by
  have hc := h.call hm.ext
  refine ⟨⟨hc.mem.ext, fun x hx => ?_, ?_⟩, hc.own, fun x hx => ?_⟩
  · rcases List.mem_append.1 hx with hx | hx
    · exact ⟨Nat.le_trans h.mem.ext.size (hm.own x hx).1, (hm.own x hx).2⟩
    · exact hc.mem.own x hx
  · rw [List.map_append, List.nodup_append]
    refine ⟨hm.nodup, h.mem.nodup, fun a ha b hb hab => ?_⟩
    obtain ⟨x, hx, rfl⟩ := List.mem_map.1 ha
    obtain ⟨y, hy, rfl⟩ := List.mem_map.1 hb
    have h1 := (hm.own x hx).1
    have h2 := h.mem.lt (b := y.1) (o := y.2) hy
    omega
  · rcases List.mem_append.1 hx with hx | hx
    · intro e
      have h1 := (hm.own x hx).1
      have h2 := h.own.lt _ e
      omega
    · exact h.apart x hx
theorem Rw.drew {w0 w : World} {v : Value} {e : TypeId} {size n : Nat} {xs : List Value} {L : List (Nat × Obj)} (h : Rw w0 w v e size n xs L) : Rw w0 w.drew v e size n xs L := h.call (Ext.refl w).drew
theorem Rw.short {w0 w : World} {A : Option Addr} {c n : Nat} {e : TypeId} {xs : List Value} {L : List (Nat × Obj)} (h : Rw w0 w (.slice A n c) e 1 n xs L) (m : Nat) (hm : m ≤ n) : Rw w0 w (.slice A m c) e 1 m (xs.take m) L := by
  have hlen : xs.length = n := by have := h.len; omega
  refine ⟨h.mem, ⟨by rw [List.length_take]; omega, ?_⟩, ?_⟩
  · rcases h.own.2 with ⟨e1, e2⟩ | ⟨g, cap, cur, e1, hg0, hg, hnc, hcm, hcs, htk⟩
    · cases e1
      exact .inl ⟨by rw [show m = 0 by omega], by omega⟩
    · cases e1
      refine .inr ⟨g, c, cur, rfl, hg0, hg, by omega, hcm, hcs, ?_⟩
      rw [← htk, List.take_take]; congr 1; omega
  · intro x hx
    have := h.apart x hx
    cases A <;> exact this
theorem SliceV.rw {w0 w : World} {A : Option Addr} {c n m size : Nat} {e : TypeId} {xs : List Value} {L : List (Nat × Obj)} {k : IntKind} {i : Int} {K : Value → Prop} (h : Rw w0 w (.slice A n c) e 1 n xs L) (hm : m ≤ n) (hi : i = m) (hk : K (.slice A m c)) :
    SliceV size A n c none (some (.int k i)) none K := by
  have hnc : n ≤ c := by
    rcases h.own.2 with ⟨e1, e2⟩ | ⟨g, cap, cur, e1, _, _, hnc, _⟩
    · omega
    · cases e1; exact hnc
  refine ⟨0, m, c, rfl, hi, rfl, by omega, by omega, by omega, fun h => by simp at h, fun A' hA' => ?_⟩
  subst hA'
  have e : (if c = 0 then A else A.map (·.add (0 * size))) = A := by
    split
    · rfl
    · cases A with
      | none => rfl
      | some a =>
        rcases h.own.2 with ⟨e1, e2⟩ | ⟨g, cap, cur, e1, _⟩
        · cases e1
        · cases e1
          simp [add_plain]
  rw [e, Nat.sub_zero, Nat.sub_zero]
  exact hk
end V
theorem top_at (t : Nat) (r : List Nat) : ((t :: r).reverse.map fun (k : Nat) => Value.int .i64 k)[(t :: r).length - 1]? = some (.int .i64 t) := by
  rw [List.getElem?_map, List.getElem?_reverse (by simp)]
  simp
theorem top2_at (t u : Nat) (r : List Nat) : ((t :: u :: r).reverse.map fun (k : Nat) => Value.int .i64 k)[(t :: u :: r).length - 2]? = some (.int .i64 u) := by
  rw [List.getElem?_map, List.getElem?_reverse (by simp; omega)]
  simp
theorem push_rev (hp : List Nat) (k i : Nat) : ((hp.reverse.map fun (k : Nat) => Value.int .i64 k).take (hp.length - k)) ++ [Value.int .i64 i] = ((i :: hp.drop k).reverse.map fun (k : Nat) => Value.int .i64 k) := by
  have : hp.reverse.take (hp.length - k) = (hp.drop k).reverse := by
    rw [List.take_reverse]
    rcases Nat.lt_or_ge k hp.length with h | h
    · rw [show hp.length - (hp.length - k) = k by omega]
    · rw [show hp.length - (hp.length - k) = hp.length by omega, List.drop_eq_nil_of_le (Nat.le_refl _), List.drop_eq_nil_of_le h]
  rw [← List.map_take, this]
  simp
theorem iriE_empty : iriE ⟨#[]⟩ ≠ 0 := by
  have h1 : refE ⟨#[]⟩ = 0 := by
    rw [refE, if_neg (by decide), if_neg (by rw [show (⟨#[]⟩ : ByteArray).data.toList = [] from rfl, scal]; simp), if_neg (by simp)]
  rw [iriE, if_neg (by rw [h1]; simp), if_pos (by rw [show (⟨#[]⟩ : ByteArray).data.toList = [] from rfl, schemeN])]
  decide

theorem stepH_un1 {t : Nat} {r : List Nat} {i : Nat} {n : PN} (h : FieldsP n) (ho : ¬ (n.op = 1 ∨ n.op = 8)) (ho2 : ¬ (n.op = 3 ∨ n.op = 4)) (ha : n.a = t) : stepH (t :: r) i n = some (i :: r) := by
  rw [stepH_un h ho ho2]; simp only; rw [if_pos ha]
theorem stepH_bin1 {t u : Nat} {r : List Nat} {i : Nat} {n : PN} (h : FieldsP n) (ho : n.op = 3 ∨ n.op = 4) (ha : n.a = u) (hb : n.b = t) : stepH (t :: u :: r) i n = some (i :: r) := by
  rw [stepH_bin h ho]; simp only; rw [if_pos ⟨ha, hb⟩]
theorem iri_ne {s : ByteArray} (h : iriE s = 0) : s ≠ ⟨#[]⟩ := by
  rintro rfl
  exact iriE_empty h

set_option maxHeartbeats 4000000 in
theorem refPathCheck_any (p : List PN) (A : Option Addr) (c : Nat) (w : World) (hA : SlAt encN 6 w A p) (hN : ∀ n ∈ p, NodeOk w n) (hl : p.length ≤ 140737488355328) :
    Gv Tryz.prog 12 [.slice A p.length c] w fun v w' => v = .int .i64 (pathE p) ∧ Ext w w' := by
  refine gv (by kernel_rfl) Tryz.func12 rfl Tryz.ntmps12 rfl ?_; conv => whnf
  (repeat' (first
      | (refine Obl.mk ⟨by omega, by omega⟩ ?_; conv => whnf)
      | (refine Obl.mk ⟨by omega, by omega, ⟨by omega, by omega⟩⟩ ?_; conv => whnf)
      | ((with_reducible refine Tst.tt ?_); conv => whnf)
      | ((with_reducible refine Tst.ff ?_); conv => whnf)
      | ((with_reducible refine Tst.dec (fun _ => ?_) (fun _ => ?_)) <;> first | (exfalso; omega) | (conv => whnf))
      | ((with_reducible refine Tst.not ?_))
      | (refine Wit.conv ⟨by omega, by omega⟩ ?_; conv => whnf)
      | ((with_reducible refine IdxV.nat (by omega) ?_); conv => whnf)
      | ((with_reducible refine SameW.mk rfl ?_); conv => whnf)
      | (refine LoadV.mem (i := 0) (by assumption) rfl rfl ?_; conv => whnf)
      | (refine LoadV.mem (i := 1) (by assumption) rfl rfl ?_; conv => whnf)
      | (refine LoadV.mem (i := 2) (by assumption) rfl rfl ?_; conv => whnf)
      | ((with_reducible refine Tst.beqT ?_))
      | ((with_reducible refine Tst.beqF ?_))
      | (refine Tst.yes rfl ?_; conv => whnf)
      | (refine Tst.no rfl ?_; conv => whnf)))
  · exact ⟨by rw [pathE_no (fun h => by have := h.1; omega)]; rfl, Ext.refl _⟩
  · exact ⟨by rw [pathE_no (fun h => by have := h.2.1; omega)]; rfl, Ext.refl _⟩
  · refine loopV (fun x : Nat × List Nat × Option Addr × Nat => [(0, .slice A p.length c), (3, .slice x.2.2.1 x.2.1.length x.2.2.2), (4, .int .i64 x.1)])
      (fun x w2 => x.1 ≤ p.length ∧ Rw w w2 (.slice x.2.2.1 x.2.1.length x.2.2.2) 3 1 x.2.1.length (x.2.1.reverse.map fun (k : Nat) => Value.int .i64 k) [] ∧ runH p 0 [] = runH (p.drop x.1) x.1 x.2.1 ∧ x.2.1.length ≤ x.1)
      (fun x => p.length - x.1) (0, [], none, 0) ⟨rfl, rfl, rfl, trivial⟩ ⟨by simp, Rw.nil (Mem.nil w), rfl, by simp⟩ ?_
    rintro ⟨i, hp, B, d⟩ w2 ρ' ⟨h1, hR, hr, hle⟩
    simp only at h1 hR hr hle
    dsimp only
    (conv => whnf)
    (repeat' (first
      | (refine Obl.mk ⟨by omega, by omega⟩ ?_; conv => whnf)
      | (refine Obl.mk ⟨by omega, by omega, ⟨by omega, by omega⟩⟩ ?_; conv => whnf)
      | ((with_reducible refine Tst.tt ?_); conv => whnf)
      | ((with_reducible refine Tst.ff ?_); conv => whnf)
      | ((with_reducible refine Tst.dec (fun _ => ?_) (fun _ => ?_)) <;> first | (exfalso; omega) | (conv => whnf))
      | ((with_reducible refine Tst.not ?_))
      | (refine Wit.conv ⟨by omega, by omega⟩ ?_; conv => whnf)
      | ((with_reducible refine IdxV.nat (by omega) ?_); conv => whnf)
      | ((with_reducible refine SameW.mk rfl ?_); conv => whnf)
      | (refine LoadV.mem (i := 0) (by assumption) rfl rfl ?_; conv => whnf)
      | (refine LoadV.mem (i := 1) (by assumption) rfl rfl ?_; conv => whnf)
      | (refine LoadV.mem (i := 2) (by assumption) rfl rfl ?_; conv => whnf)
      | ((with_reducible refine Tst.beqT ?_))
      | ((with_reducible refine Tst.beqF ?_))
      | (refine Tst.yes rfl ?_; conv => whnf)
      | (refine Tst.no rfl ?_; conv => whnf)))
    · have hil : i < p.length := by omega
      obtain ⟨n, hn⟩ : ∃ n, n = p[i] := ⟨_, rfl⟩
      have hnok : NodeOk w n := hn ▸ hN _ (List.getElem_mem hil)
      rw [List.drop_eq_getElem_cons hil, runH, ← hn] at hr
      refine ElemV.sl (hA.ext hR.mem.ext) rfl i rfl hil ?_
      intro eb off hc
      rw [← hn] at hc
      (conv => whnf)
      refine LoadA.cells hc rfl ?_
      (conv => whnf)
      refine NewV.mem (Mem.nil w2) ?_
      intro nb w3 hm
      (conv => whnf)
      refine StoreA.mem hm (i := 0) rfl (Nat.le_refl 6) (fun v hv => by simp at hv; rcases hv with rfl | rfl | rfl | rfl | rfl | rfl <;> rfl) ?_
      intro w4 hm
      replace hm : Mem w2 w4 [(nb, .cells (encN n).toArray 81 (0, 0))] := hm
      have hR4 := hR.join hm
      have step : stepH hp i n = none → ¬ CheckP p := fun h hc => by
        rw [h] at hr
        obtain ⟨_, _, x, hx⟩ := hc
        rw [hr] at hx
        cases hx
      have bad : ∀ w5, Ext w w5 → stepH hp i n = none → (Value.int .i64 220 = Value.int .i64 (pathE p) ∧ Ext w w5) := fun w5 h5 h => ⟨by rw [pathE_no (step h)]; rfl, h5⟩
      have hfl := hnok.fl
      have hvl := hnok.vl
      have hR5 := hR4.drew
      have hm5 := hm.drew
      have x5 := hR5.mem.ext
      (conv => whnf)
      refine LoadV.mem hm (i := 0) rfl rfl ?_
      (conv => whnf)
      (repeat' (first
      | (refine Obl.mk ⟨by omega, by omega⟩ ?_; conv => whnf)
      | (refine Obl.mk ⟨by omega, by omega, ⟨by omega, by omega⟩⟩ ?_; conv => whnf)
      | ((with_reducible refine Tst.tt ?_); conv => whnf)
      | ((with_reducible refine Tst.ff ?_); conv => whnf)
      | ((with_reducible refine Tst.dec (fun _ => ?_) (fun _ => ?_)) <;> first | (exfalso; omega) | (conv => whnf))
      | ((with_reducible refine Tst.not ?_))
      | (refine Wit.conv ⟨by omega, by omega⟩ ?_; conv => whnf)
      | ((with_reducible refine IdxV.nat (by omega) ?_); conv => whnf)
      | ((with_reducible refine SameW.mk rfl ?_); conv => whnf)
      | (refine LoadV.mem (i := 0) (by assumption) rfl rfl ?_; conv => whnf)
      | (refine LoadV.mem (i := 1) (by assumption) rfl rfl ?_; conv => whnf)
      | (refine LoadV.mem (i := 2) (by assumption) rfl rfl ?_; conv => whnf)
      | ((with_reducible refine Tst.beqT ?_))
      | ((with_reducible refine Tst.beqF ?_))
      | (refine Tst.yes rfl ?_; conv => whnf)
      | (refine Tst.no rfl ?_; conv => whnf)))
      --GEN
      · refine DrawV.quiet (by kernel_rfl) (by kernel_rfl) ?_; conv => whnf
        (repeat' (first
      | (refine Obl.mk ⟨by omega, by omega⟩ ?_; conv => whnf)
      | (refine Obl.mk ⟨by omega, by omega, ⟨by omega, by omega⟩⟩ ?_; conv => whnf)
      | ((with_reducible refine Tst.tt ?_); conv => whnf)
      | ((with_reducible refine Tst.ff ?_); conv => whnf)
      | ((with_reducible refine Tst.dec (fun _ => ?_) (fun _ => ?_)) <;> first | (exfalso; omega) | (conv => whnf))
      | ((with_reducible refine Tst.not ?_))
      | (refine Wit.conv ⟨by omega, by omega⟩ ?_; conv => whnf)
      | ((with_reducible refine IdxV.nat (by omega) ?_); conv => whnf)
      | ((with_reducible refine SameW.mk rfl ?_); conv => whnf)
      | (refine LoadV.mem (i := 0) (by assumption) rfl rfl ?_; conv => whnf)
      | (refine LoadV.mem (i := 1) (by assumption) rfl rfl ?_; conv => whnf)
      | (refine LoadV.mem (i := 2) (by assumption) rfl rfl ?_; conv => whnf)
      | ((with_reducible refine Tst.beqT ?_))
      | ((with_reducible refine Tst.beqF ?_))
      | (refine Tst.yes rfl ?_; conv => whnf)
      | (refine Tst.no rfl ?_; conv => whnf)))
        · exact bad _ x5 (stepH_none fun hf => by unfold FieldsP at hf; omega)
        · exact bad _ x5 (stepH_none fun hf => by unfold FieldsP at hf; omega)
        · refine SliceV.rw (m := hp.length - 0) hR5 (by omega) (by omega) ?_
          (conv => whnf)
          refine NewV.rw (hR5.short (hp.length - 0) (by omega)) ?_
          intro ob w6 hR6
          (conv => whnf)
          refine AppV.str1 (i := _) (z := .int .i64 0) Tryz.underlying83 (Option.some_get (by kernel_rfl)).symm (by kernel_rfl) (by kernel_rfl) rfl (by decide +kernel) hR6 rfl (by omega) ?_
          intro B' d' w7 hR7
          rw [push_rev] at hR7
          have hl7 : hp.length - 0 + 1 = (i :: hp.drop 0).length := by simp
          rw [hl7] at hR7 ⊢
          have hm7 := hR7.mem
          have x7 := hR7.mem.ext
          (conv => whnf)
          (repeat' (first
      | (refine Obl.mk ⟨by omega, by omega⟩ ?_; conv => whnf)
      | (refine Obl.mk ⟨by omega, by omega, ⟨by omega, by omega⟩⟩ ?_; conv => whnf)
      | ((with_reducible refine Tst.tt ?_); conv => whnf)
      | ((with_reducible refine Tst.ff ?_); conv => whnf)
      | ((with_reducible refine Tst.dec (fun _ => ?_) (fun _ => ?_)) <;> first | (exfalso; omega) | (conv => whnf))
      | ((with_reducible refine Tst.not ?_))
      | (refine Wit.conv ⟨by omega, by omega⟩ ?_; conv => whnf)
      | ((with_reducible refine IdxV.nat (by omega) ?_); conv => whnf)
      | ((with_reducible refine SameW.mk rfl ?_); conv => whnf)
      | (refine LoadV.mem (i := 0) (by assumption) rfl rfl ?_; conv => whnf)
      | (refine LoadV.mem (i := 1) (by assumption) rfl rfl ?_; conv => whnf)
      | (refine LoadV.mem (i := 2) (by assumption) rfl rfl ?_; conv => whnf)
      | ((with_reducible refine Tst.beqT ?_))
      | ((with_reducible refine Tst.beqF ?_))
      | (refine Tst.yes rfl ?_; conv => whnf)
      | (refine Tst.no rfl ?_; conv => whnf)))
          refine CallV.of (refIriCheck_any n.iri hnok.iri w7) ?_
          rintro v w8 ⟨rfl, he8⟩
          have hR8 := hR7.call he8
          have hm8 := hR8.mem
          have x8 := hR8.mem.ext
          (conv => whnf)
          (repeat' (first
      | (refine Obl.mk ⟨by omega, by omega⟩ ?_; conv => whnf)
      | (refine Obl.mk ⟨by omega, by omega, ⟨by omega, by omega⟩⟩ ?_; conv => whnf)
      | ((with_reducible refine Tst.tt ?_); conv => whnf)
      | ((with_reducible refine Tst.ff ?_); conv => whnf)
      | ((with_reducible refine Tst.dec (fun _ => ?_) (fun _ => ?_)) <;> first | (exfalso; omega) | (conv => whnf))
      | ((with_reducible refine Tst.not ?_))
      | (refine Wit.conv ⟨by omega, by omega⟩ ?_; conv => whnf)
      | ((with_reducible refine IdxV.nat (by omega) ?_); conv => whnf)
      | ((with_reducible refine SameW.mk rfl ?_); conv => whnf)
      | (refine LoadV.mem (i := 0) (by assumption) rfl rfl ?_; conv => whnf)
      | (refine LoadV.mem (i := 1) (by assumption) rfl rfl ?_; conv => whnf)
      | (refine LoadV.mem (i := 2) (by assumption) rfl rfl ?_; conv => whnf)
      | ((with_reducible refine Tst.beqT ?_))
      | ((with_reducible refine Tst.beqF ?_))
      | (refine Tst.yes rfl ?_; conv => whnf)
      | (refine Tst.no rfl ?_; conv => whnf)))
          · exact bad _ x8 (stepH_none fun hf => by unfold FieldsP at hf; omega)
          · exact bad _ x8 (stepH_none fun hf => by unfold FieldsP at hf; omega)
          · have hf : FieldsP n := .inl ⟨by omega, iri_ne (by omega), by omega, by omega, by omega, by omega⟩
            rw [stepH_leaf hf (by omega)] at hr
            refine ⟨(i + 1, i :: hp.drop 0, B', d'), ⟨rfl, rfl, rfl, trivial⟩, ⟨by simp only; omega, hR8.tail, hr, by have := hle; simp at this ⊢ <;> omega⟩, by simp only; omega⟩
      · refine DrawV.quiet (by kernel_rfl) (by kernel_rfl) ?_; conv => whnf
        (repeat' (first
      | (refine Obl.mk ⟨by omega, by omega⟩ ?_; conv => whnf)
      | (refine Obl.mk ⟨by omega, by omega, ⟨by omega, by omega⟩⟩ ?_; conv => whnf)
      | ((with_reducible refine Tst.tt ?_); conv => whnf)
      | ((with_reducible refine Tst.ff ?_); conv => whnf)
      | ((with_reducible refine Tst.dec (fun _ => ?_) (fun _ => ?_)) <;> first | (exfalso; omega) | (conv => whnf))
      | ((with_reducible refine Tst.not ?_))
      | (refine Wit.conv ⟨by omega, by omega⟩ ?_; conv => whnf)
      | ((with_reducible refine IdxV.nat (by omega) ?_); conv => whnf)
      | ((with_reducible refine SameW.mk rfl ?_); conv => whnf)
      | (refine LoadV.mem (i := 0) (by assumption) rfl rfl ?_; conv => whnf)
      | (refine LoadV.mem (i := 1) (by assumption) rfl rfl ?_; conv => whnf)
      | (refine LoadV.mem (i := 2) (by assumption) rfl rfl ?_; conv => whnf)
      | ((with_reducible refine Tst.beqT ?_))
      | ((with_reducible refine Tst.beqF ?_))
      | (refine Tst.yes rfl ?_; conv => whnf)
      | (refine Tst.no rfl ?_; conv => whnf)))
        · exact bad _ x5 (stepH_none fun hf => by unfold FieldsP at hf; omega)
        · exact bad _ x5 (stepH_none fun hf => by unfold FieldsP at hf; omega)
        · refine SliceV.rw (m := hp.length - 0) hR5 (by omega) (by omega) ?_
          (conv => whnf)
          refine NewV.rw (hR5.short (hp.length - 0) (by omega)) ?_
          intro ob w6 hR6
          (conv => whnf)
          refine AppV.str1 (i := _) (z := .int .i64 0) Tryz.underlying83 (Option.some_get (by kernel_rfl)).symm (by kernel_rfl) (by kernel_rfl) rfl (by decide +kernel) hR6 rfl (by omega) ?_
          intro B' d' w7 hR7
          rw [push_rev] at hR7
          have hl7 : hp.length - 0 + 1 = (i :: hp.drop 0).length := by simp
          rw [hl7] at hR7 ⊢
          have hm7 := hR7.mem
          have x7 := hR7.mem.ext
          (conv => whnf)
          (repeat' (first
      | (refine Obl.mk ⟨by omega, by omega⟩ ?_; conv => whnf)
      | (refine Obl.mk ⟨by omega, by omega, ⟨by omega, by omega⟩⟩ ?_; conv => whnf)
      | ((with_reducible refine Tst.tt ?_); conv => whnf)
      | ((with_reducible refine Tst.ff ?_); conv => whnf)
      | ((with_reducible refine Tst.dec (fun _ => ?_) (fun _ => ?_)) <;> first | (exfalso; omega) | (conv => whnf))
      | ((with_reducible refine Tst.not ?_))
      | (refine Wit.conv ⟨by omega, by omega⟩ ?_; conv => whnf)
      | ((with_reducible refine IdxV.nat (by omega) ?_); conv => whnf)
      | ((with_reducible refine SameW.mk rfl ?_); conv => whnf)
      | (refine LoadV.mem (i := 0) (by assumption) rfl rfl ?_; conv => whnf)
      | (refine LoadV.mem (i := 1) (by assumption) rfl rfl ?_; conv => whnf)
      | (refine LoadV.mem (i := 2) (by assumption) rfl rfl ?_; conv => whnf)
      | ((with_reducible refine Tst.beqT ?_))
      | ((with_reducible refine Tst.beqF ?_))
      | (refine Tst.yes rfl ?_; conv => whnf)
      | (refine Tst.no rfl ?_; conv => whnf)))
          refine Tst.seq (fun hi => ?_) (fun hi => ?_)
          · (conv => whnf)
            (repeat' (first
      | (refine Obl.mk ⟨by omega, by omega⟩ ?_; conv => whnf)
      | (refine Obl.mk ⟨by omega, by omega, ⟨by omega, by omega⟩⟩ ?_; conv => whnf)
      | ((with_reducible refine Tst.tt ?_); conv => whnf)
      | ((with_reducible refine Tst.ff ?_); conv => whnf)
      | ((with_reducible refine Tst.dec (fun _ => ?_) (fun _ => ?_)) <;> first | (exfalso; omega) | (conv => whnf))
      | ((with_reducible refine Tst.not ?_))
      | (refine Wit.conv ⟨by omega, by omega⟩ ?_; conv => whnf)
      | ((with_reducible refine IdxV.nat (by omega) ?_); conv => whnf)
      | ((with_reducible refine SameW.mk rfl ?_); conv => whnf)
      | (refine LoadV.mem (i := 0) (by assumption) rfl rfl ?_; conv => whnf)
      | (refine LoadV.mem (i := 1) (by assumption) rfl rfl ?_; conv => whnf)
      | (refine LoadV.mem (i := 2) (by assumption) rfl rfl ?_; conv => whnf)
      | ((with_reducible refine Tst.beqT ?_))
      | ((with_reducible refine Tst.beqF ?_))
      | (refine Tst.yes rfl ?_; conv => whnf)
      | (refine Tst.no rfl ?_; conv => whnf)))
            · exact bad _ x7 (stepH_none fun hf => by unfold FieldsP at hf; omega)
            · refine CallV.of (rising_any n.f n.fA n.fc w7 (hnok.fA.ext x7) hnok.fl hnok.fs) ?_
              rintro v w8 ⟨⟨b1, rfl, hb1⟩, he8⟩
              have hR8 := hR7.call he8
              have hm8 := hR8.mem
              have x8 := hR8.mem.ext
              cases b1
              · (conv => whnf)
                (repeat' (first
      | (refine Obl.mk ⟨by omega, by omega⟩ ?_; conv => whnf)
      | (refine Obl.mk ⟨by omega, by omega, ⟨by omega, by omega⟩⟩ ?_; conv => whnf)
      | ((with_reducible refine Tst.tt ?_); conv => whnf)
      | ((with_reducible refine Tst.ff ?_); conv => whnf)
      | ((with_reducible refine Tst.dec (fun _ => ?_) (fun _ => ?_)) <;> first | (exfalso; omega) | (conv => whnf))
      | ((with_reducible refine Tst.not ?_))
      | (refine Wit.conv ⟨by omega, by omega⟩ ?_; conv => whnf)
      | ((with_reducible refine IdxV.nat (by omega) ?_); conv => whnf)
      | ((with_reducible refine SameW.mk rfl ?_); conv => whnf)
      | (refine LoadV.mem (i := 0) (by assumption) rfl rfl ?_; conv => whnf)
      | (refine LoadV.mem (i := 1) (by assumption) rfl rfl ?_; conv => whnf)
      | (refine LoadV.mem (i := 2) (by assumption) rfl rfl ?_; conv => whnf)
      | ((with_reducible refine Tst.beqT ?_))
      | ((with_reducible refine Tst.beqF ?_))
      | (refine Tst.yes rfl ?_; conv => whnf)
      | (refine Tst.no rfl ?_; conv => whnf)))
                exact bad _ x8 (stepH_none fun hf => by
                  have := (hf.not (by omega)).1
                  exact absurd (hb1.2 this) (by simp))
              · (conv => whnf)
                (repeat' (first
      | (refine Obl.mk ⟨by omega, by omega⟩ ?_; conv => whnf)
      | (refine Obl.mk ⟨by omega, by omega, ⟨by omega, by omega⟩⟩ ?_; conv => whnf)
      | ((with_reducible refine Tst.tt ?_); conv => whnf)
      | ((with_reducible refine Tst.ff ?_); conv => whnf)
      | ((with_reducible refine Tst.dec (fun _ => ?_) (fun _ => ?_)) <;> first | (exfalso; omega) | (conv => whnf))
      | ((with_reducible refine Tst.not ?_))
      | (refine Wit.conv ⟨by omega, by omega⟩ ?_; conv => whnf)
      | ((with_reducible refine IdxV.nat (by omega) ?_); conv => whnf)
      | ((with_reducible refine SameW.mk rfl ?_); conv => whnf)
      | (refine LoadV.mem (i := 0) (by assumption) rfl rfl ?_; conv => whnf)
      | (refine LoadV.mem (i := 1) (by assumption) rfl rfl ?_; conv => whnf)
      | (refine LoadV.mem (i := 2) (by assumption) rfl rfl ?_; conv => whnf)
      | ((with_reducible refine Tst.beqT ?_))
      | ((with_reducible refine Tst.beqF ?_))
      | (refine Tst.yes rfl ?_; conv => whnf)
      | (refine Tst.no rfl ?_; conv => whnf)))
                refine CallV.of (rising_any n.v n.vA n.vc w8 (hnok.vA.ext x8) hnok.vl hnok.vs) ?_
                rintro v w9 ⟨⟨b2, rfl, hb2⟩, he9⟩
                have hR9 := hR8.call he9
                have hm9 := hR9.mem
                have x9 := hR9.mem.ext
                cases b2
                · (conv => whnf)
                  (repeat' (first
      | (refine Obl.mk ⟨by omega, by omega⟩ ?_; conv => whnf)
      | (refine Obl.mk ⟨by omega, by omega, ⟨by omega, by omega⟩⟩ ?_; conv => whnf)
      | ((with_reducible refine Tst.tt ?_); conv => whnf)
      | ((with_reducible refine Tst.ff ?_); conv => whnf)
      | ((with_reducible refine Tst.dec (fun _ => ?_) (fun _ => ?_)) <;> first | (exfalso; omega) | (conv => whnf))
      | ((with_reducible refine Tst.not ?_))
      | (refine Wit.conv ⟨by omega, by omega⟩ ?_; conv => whnf)
      | ((with_reducible refine IdxV.nat (by omega) ?_); conv => whnf)
      | ((with_reducible refine SameW.mk rfl ?_); conv => whnf)
      | (refine LoadV.mem (i := 0) (by assumption) rfl rfl ?_; conv => whnf)
      | (refine LoadV.mem (i := 1) (by assumption) rfl rfl ?_; conv => whnf)
      | (refine LoadV.mem (i := 2) (by assumption) rfl rfl ?_; conv => whnf)
      | ((with_reducible refine Tst.beqT ?_))
      | ((with_reducible refine Tst.beqF ?_))
      | (refine Tst.yes rfl ?_; conv => whnf)
      | (refine Tst.no rfl ?_; conv => whnf)))
                  exact bad _ x9 (stepH_none fun hf => by
                    have := (hf.not (by omega)).2.1
                    exact absurd (hb2.2 this) (by simp))
                · (conv => whnf)
                  (repeat' (first
      | (refine Obl.mk ⟨by omega, by omega⟩ ?_; conv => whnf)
      | (refine Obl.mk ⟨by omega, by omega, ⟨by omega, by omega⟩⟩ ?_; conv => whnf)
      | ((with_reducible refine Tst.tt ?_); conv => whnf)
      | ((with_reducible refine Tst.ff ?_); conv => whnf)
      | ((with_reducible refine Tst.dec (fun _ => ?_) (fun _ => ?_)) <;> first | (exfalso; omega) | (conv => whnf))
      | ((with_reducible refine Tst.not ?_))
      | (refine Wit.conv ⟨by omega, by omega⟩ ?_; conv => whnf)
      | ((with_reducible refine IdxV.nat (by omega) ?_); conv => whnf)
      | ((with_reducible refine SameW.mk rfl ?_); conv => whnf)
      | (refine LoadV.mem (i := 0) (by assumption) rfl rfl ?_; conv => whnf)
      | (refine LoadV.mem (i := 1) (by assumption) rfl rfl ?_; conv => whnf)
      | (refine LoadV.mem (i := 2) (by assumption) rfl rfl ?_; conv => whnf)
      | ((with_reducible refine Tst.beqT ?_))
      | ((with_reducible refine Tst.beqF ?_))
      | (refine Tst.yes rfl ?_; conv => whnf)
      | (refine Tst.no rfl ?_; conv => whnf)))
                  have hf : FieldsP n := .inr (.inl ⟨by omega, hi, by omega, by omega, by omega, hb1.1 rfl, hb2.1 rfl⟩)
                  rw [stepH_leaf hf (by omega)] at hr
                  refine ⟨(i + 1, i :: hp.drop 0, B', d'), ⟨rfl, rfl, rfl, trivial⟩, ⟨by simp only; omega, hR9.tail, hr, by have := hle; simp at this ⊢ <;> omega⟩, by simp only; omega⟩
          · (conv => whnf)
            (repeat' (first
      | (refine Obl.mk ⟨by omega, by omega⟩ ?_; conv => whnf)
      | (refine Obl.mk ⟨by omega, by omega, ⟨by omega, by omega⟩⟩ ?_; conv => whnf)
      | ((with_reducible refine Tst.tt ?_); conv => whnf)
      | ((with_reducible refine Tst.ff ?_); conv => whnf)
      | ((with_reducible refine Tst.dec (fun _ => ?_) (fun _ => ?_)) <;> first | (exfalso; omega) | (conv => whnf))
      | ((with_reducible refine Tst.not ?_))
      | (refine Wit.conv ⟨by omega, by omega⟩ ?_; conv => whnf)
      | ((with_reducible refine IdxV.nat (by omega) ?_); conv => whnf)
      | ((with_reducible refine SameW.mk rfl ?_); conv => whnf)
      | (refine LoadV.mem (i := 0) (by assumption) rfl rfl ?_; conv => whnf)
      | (refine LoadV.mem (i := 1) (by assumption) rfl rfl ?_; conv => whnf)
      | (refine LoadV.mem (i := 2) (by assumption) rfl rfl ?_; conv => whnf)
      | ((with_reducible refine Tst.beqT ?_))
      | ((with_reducible refine Tst.beqF ?_))
      | (refine Tst.yes rfl ?_; conv => whnf)
      | (refine Tst.no rfl ?_; conv => whnf)))
            exact bad _ x7 (stepH_none fun hf => by unfold FieldsP at hf; simp only [hi] at hf; simp at hf; omega)
      · refine DrawV.quiet (by kernel_rfl) (by kernel_rfl) ?_; conv => whnf
        (repeat' (first
      | (refine Obl.mk ⟨by omega, by omega⟩ ?_; conv => whnf)
      | (refine Obl.mk ⟨by omega, by omega, ⟨by omega, by omega⟩⟩ ?_; conv => whnf)
      | ((with_reducible refine Tst.tt ?_); conv => whnf)
      | ((with_reducible refine Tst.ff ?_); conv => whnf)
      | ((with_reducible refine Tst.dec (fun _ => ?_) (fun _ => ?_)) <;> first | (exfalso; omega) | (conv => whnf))
      | ((with_reducible refine Tst.not ?_))
      | (refine Wit.conv ⟨by omega, by omega⟩ ?_; conv => whnf)
      | ((with_reducible refine IdxV.nat (by omega) ?_); conv => whnf)
      | ((with_reducible refine SameW.mk rfl ?_); conv => whnf)
      | (refine LoadV.mem (i := 0) (by assumption) rfl rfl ?_; conv => whnf)
      | (refine LoadV.mem (i := 1) (by assumption) rfl rfl ?_; conv => whnf)
      | (refine LoadV.mem (i := 2) (by assumption) rfl rfl ?_; conv => whnf)
      | ((with_reducible refine Tst.beqT ?_))
      | ((with_reducible refine Tst.beqF ?_))
      | (refine Tst.yes rfl ?_; conv => whnf)
      | (refine Tst.no rfl ?_; conv => whnf)))
        · exact bad _ x5 (by
            by_cases hf : FieldsP n
            · have e : hp = [] := List.eq_nil_of_length_eq_zero (by omega)
              rw [stepH_un hf (by omega) (by omega), e]
            · exact stepH_none hf)
        · exact bad _ x5 (stepH_none fun hf => by unfold FieldsP at hf; omega)
        · obtain ⟨t, r, rfl⟩ : ∃ t r, hp = t :: r := by
            cases hp with
            | nil => simp at * <;> omega
            | cons t r => exact ⟨t, r, rfl⟩
          obtain ⟨g, rfl, _, _, _, hcl⟩ := hR5.cells (by simp)
          refine ElemV.own1 ((t :: r).length - 1) (by omega) (by simp) ?_
          (conv => whnf)
          (repeat' (first
      | (refine Obl.mk ⟨by omega, by omega⟩ ?_; conv => whnf)
      | (refine Obl.mk ⟨by omega, by omega, ⟨by omega, by omega⟩⟩ ?_; conv => whnf)
      | ((with_reducible refine Tst.tt ?_); conv => whnf)
      | ((with_reducible refine Tst.ff ?_); conv => whnf)
      | ((with_reducible refine Tst.dec (fun _ => ?_) (fun _ => ?_)) <;> first | (exfalso; omega) | (conv => whnf))
      | ((with_reducible refine Tst.not ?_))
      | (refine Wit.conv ⟨by omega, by omega⟩ ?_; conv => whnf)
      | ((with_reducible refine IdxV.nat (by omega) ?_); conv => whnf)
      | ((with_reducible refine SameW.mk rfl ?_); conv => whnf)
      | (refine LoadV.mem (i := 0) (by assumption) rfl rfl ?_; conv => whnf)
      | (refine LoadV.mem (i := 1) (by assumption) rfl rfl ?_; conv => whnf)
      | (refine LoadV.mem (i := 2) (by assumption) rfl rfl ?_; conv => whnf)
      | ((with_reducible refine Tst.beqT ?_))
      | ((with_reducible refine Tst.beqF ?_))
      | (refine Tst.yes rfl ?_; conv => whnf)
      | (refine Tst.no rfl ?_; conv => whnf)))
          refine LoadV.of (by have := hcl _ _ (top_at t r); rwa [Nat.zero_add] at this) ?_
          (conv => whnf)
          (repeat' (first
      | (refine Obl.mk ⟨by omega, by omega⟩ ?_; conv => whnf)
      | (refine Obl.mk ⟨by omega, by omega, ⟨by omega, by omega⟩⟩ ?_; conv => whnf)
      | ((with_reducible refine Tst.tt ?_); conv => whnf)
      | ((with_reducible refine Tst.ff ?_); conv => whnf)
      | ((with_reducible refine Tst.dec (fun _ => ?_) (fun _ => ?_)) <;> first | (exfalso; omega) | (conv => whnf))
      | ((with_reducible refine Tst.not ?_))
      | (refine Wit.conv ⟨by omega, by omega⟩ ?_; conv => whnf)
      | ((with_reducible refine IdxV.nat (by omega) ?_); conv => whnf)
      | ((with_reducible refine SameW.mk rfl ?_); conv => whnf)
      | (refine LoadV.mem (i := 0) (by assumption) rfl rfl ?_; conv => whnf)
      | (refine LoadV.mem (i := 1) (by assumption) rfl rfl ?_; conv => whnf)
      | (refine LoadV.mem (i := 2) (by assumption) rfl rfl ?_; conv => whnf)
      | ((with_reducible refine Tst.beqT ?_))
      | ((with_reducible refine Tst.beqF ?_))
      | (refine Tst.yes rfl ?_; conv => whnf)
      | (refine Tst.no rfl ?_; conv => whnf)))
          · exact bad _ x5 (by
              by_cases hf : FieldsP n
              · rw [stepH_un hf (by omega) (by omega)]; simp only; rw [if_neg (by omega)]
              · exact stepH_none hf)
          · refine SliceV.rw (m := (t :: r).length - 1) hR5 (by omega) (by omega) ?_
            (conv => whnf)
            refine NewV.rw (hR5.short ((t :: r).length - 1) (by omega)) ?_
            intro ob w6 hR6
            (conv => whnf)
            refine AppV.str1 (i := _) (z := .int .i64 0) Tryz.underlying83 (Option.some_get (by kernel_rfl)).symm (by kernel_rfl) (by kernel_rfl) rfl (by decide +kernel) hR6 rfl (by omega) ?_
            intro B' d' w7 hR7
            rw [push_rev] at hR7
            have hl7 : (t :: r).length - 1 + 1 = (i :: (t :: r).drop 1).length := by simp
            rw [hl7] at hR7 ⊢
            have hm7 := hR7.mem
            have x7 := hR7.mem.ext
            (conv => whnf)
            (repeat' (first
      | (refine Obl.mk ⟨by omega, by omega⟩ ?_; conv => whnf)
      | (refine Obl.mk ⟨by omega, by omega, ⟨by omega, by omega⟩⟩ ?_; conv => whnf)
      | ((with_reducible refine Tst.tt ?_); conv => whnf)
      | ((with_reducible refine Tst.ff ?_); conv => whnf)
      | ((with_reducible refine Tst.dec (fun _ => ?_) (fun _ => ?_)) <;> first | (exfalso; omega) | (conv => whnf))
      | ((with_reducible refine Tst.not ?_))
      | (refine Wit.conv ⟨by omega, by omega⟩ ?_; conv => whnf)
      | ((with_reducible refine IdxV.nat (by omega) ?_); conv => whnf)
      | ((with_reducible refine SameW.mk rfl ?_); conv => whnf)
      | (refine LoadV.mem (i := 0) (by assumption) rfl rfl ?_; conv => whnf)
      | (refine LoadV.mem (i := 1) (by assumption) rfl rfl ?_; conv => whnf)
      | (refine LoadV.mem (i := 2) (by assumption) rfl rfl ?_; conv => whnf)
      | ((with_reducible refine Tst.beqT ?_))
      | ((with_reducible refine Tst.beqF ?_))
      | (refine Tst.yes rfl ?_; conv => whnf)
      | (refine Tst.no rfl ?_; conv => whnf)))
            refine Tst.seq (fun hi => ?_) (fun hi => ?_)
            · (conv => whnf)
              (repeat' (first
      | (refine Obl.mk ⟨by omega, by omega⟩ ?_; conv => whnf)
      | (refine Obl.mk ⟨by omega, by omega, ⟨by omega, by omega⟩⟩ ?_; conv => whnf)
      | ((with_reducible refine Tst.tt ?_); conv => whnf)
      | ((with_reducible refine Tst.ff ?_); conv => whnf)
      | ((with_reducible refine Tst.dec (fun _ => ?_) (fun _ => ?_)) <;> first | (exfalso; omega) | (conv => whnf))
      | ((with_reducible refine Tst.not ?_))
      | (refine Wit.conv ⟨by omega, by omega⟩ ?_; conv => whnf)
      | ((with_reducible refine IdxV.nat (by omega) ?_); conv => whnf)
      | ((with_reducible refine SameW.mk rfl ?_); conv => whnf)
      | (refine LoadV.mem (i := 0) (by assumption) rfl rfl ?_; conv => whnf)
      | (refine LoadV.mem (i := 1) (by assumption) rfl rfl ?_; conv => whnf)
      | (refine LoadV.mem (i := 2) (by assumption) rfl rfl ?_; conv => whnf)
      | ((with_reducible refine Tst.beqT ?_))
      | ((with_reducible refine Tst.beqF ?_))
      | (refine Tst.yes rfl ?_; conv => whnf)
      | (refine Tst.no rfl ?_; conv => whnf)))
              · exact bad _ x7 (stepH_none fun hf => by unfold FieldsP at hf; omega)
              · have hf : FieldsP n := .inr (.inr (.inl ⟨by omega, hi, by omega, by omega⟩))
                rw [stepH_un1 hf (by omega) (by omega) (by omega)] at hr
                refine ⟨(i + 1, i :: (t :: r).drop 1, B', d'), ⟨rfl, rfl, rfl, trivial⟩, ⟨by simp only; omega, hR7.tail, hr, by have := hle; simp at this ⊢ <;> omega⟩, by simp only; omega⟩
            · (conv => whnf)
              (repeat' (first
      | (refine Obl.mk ⟨by omega, by omega⟩ ?_; conv => whnf)
      | (refine Obl.mk ⟨by omega, by omega, ⟨by omega, by omega⟩⟩ ?_; conv => whnf)
      | ((with_reducible refine Tst.tt ?_); conv => whnf)
      | ((with_reducible refine Tst.ff ?_); conv => whnf)
      | ((with_reducible refine Tst.dec (fun _ => ?_) (fun _ => ?_)) <;> first | (exfalso; omega) | (conv => whnf))
      | ((with_reducible refine Tst.not ?_))
      | (refine Wit.conv ⟨by omega, by omega⟩ ?_; conv => whnf)
      | ((with_reducible refine IdxV.nat (by omega) ?_); conv => whnf)
      | ((with_reducible refine SameW.mk rfl ?_); conv => whnf)
      | (refine LoadV.mem (i := 0) (by assumption) rfl rfl ?_; conv => whnf)
      | (refine LoadV.mem (i := 1) (by assumption) rfl rfl ?_; conv => whnf)
      | (refine LoadV.mem (i := 2) (by assumption) rfl rfl ?_; conv => whnf)
      | ((with_reducible refine Tst.beqT ?_))
      | ((with_reducible refine Tst.beqF ?_))
      | (refine Tst.yes rfl ?_; conv => whnf)
      | (refine Tst.no rfl ?_; conv => whnf)))
              exact bad _ x7 (stepH_none fun hf => by unfold FieldsP at hf; simp only [hi] at hf; simp at hf; omega)
      · refine DrawV.quiet (by kernel_rfl) (by kernel_rfl) ?_; conv => whnf
        (repeat' (first
      | (refine Obl.mk ⟨by omega, by omega⟩ ?_; conv => whnf)
      | (refine Obl.mk ⟨by omega, by omega, ⟨by omega, by omega⟩⟩ ?_; conv => whnf)
      | ((with_reducible refine Tst.tt ?_); conv => whnf)
      | ((with_reducible refine Tst.ff ?_); conv => whnf)
      | ((with_reducible refine Tst.dec (fun _ => ?_) (fun _ => ?_)) <;> first | (exfalso; omega) | (conv => whnf))
      | ((with_reducible refine Tst.not ?_))
      | (refine Wit.conv ⟨by omega, by omega⟩ ?_; conv => whnf)
      | ((with_reducible refine IdxV.nat (by omega) ?_); conv => whnf)
      | ((with_reducible refine SameW.mk rfl ?_); conv => whnf)
      | (refine LoadV.mem (i := 0) (by assumption) rfl rfl ?_; conv => whnf)
      | (refine LoadV.mem (i := 1) (by assumption) rfl rfl ?_; conv => whnf)
      | (refine LoadV.mem (i := 2) (by assumption) rfl rfl ?_; conv => whnf)
      | ((with_reducible refine Tst.beqT ?_))
      | ((with_reducible refine Tst.beqF ?_))
      | (refine Tst.yes rfl ?_; conv => whnf)
      | (refine Tst.no rfl ?_; conv => whnf)))
        · exact bad _ x5 (by
            by_cases hf : FieldsP n
            · have e : hp = [] := List.eq_nil_of_length_eq_zero (by omega)
              rw [stepH_un hf (by omega) (by omega), e]
            · exact stepH_none hf)
        · exact bad _ x5 (stepH_none fun hf => by unfold FieldsP at hf; omega)
        · obtain ⟨t, r, rfl⟩ : ∃ t r, hp = t :: r := by
            cases hp with
            | nil => simp at * <;> omega
            | cons t r => exact ⟨t, r, rfl⟩
          obtain ⟨g, rfl, _, _, _, hcl⟩ := hR5.cells (by simp)
          refine ElemV.own1 ((t :: r).length - 1) (by omega) (by simp) ?_
          (conv => whnf)
          (repeat' (first
      | (refine Obl.mk ⟨by omega, by omega⟩ ?_; conv => whnf)
      | (refine Obl.mk ⟨by omega, by omega, ⟨by omega, by omega⟩⟩ ?_; conv => whnf)
      | ((with_reducible refine Tst.tt ?_); conv => whnf)
      | ((with_reducible refine Tst.ff ?_); conv => whnf)
      | ((with_reducible refine Tst.dec (fun _ => ?_) (fun _ => ?_)) <;> first | (exfalso; omega) | (conv => whnf))
      | ((with_reducible refine Tst.not ?_))
      | (refine Wit.conv ⟨by omega, by omega⟩ ?_; conv => whnf)
      | ((with_reducible refine IdxV.nat (by omega) ?_); conv => whnf)
      | ((with_reducible refine SameW.mk rfl ?_); conv => whnf)
      | (refine LoadV.mem (i := 0) (by assumption) rfl rfl ?_; conv => whnf)
      | (refine LoadV.mem (i := 1) (by assumption) rfl rfl ?_; conv => whnf)
      | (refine LoadV.mem (i := 2) (by assumption) rfl rfl ?_; conv => whnf)
      | ((with_reducible refine Tst.beqT ?_))
      | ((with_reducible refine Tst.beqF ?_))
      | (refine Tst.yes rfl ?_; conv => whnf)
      | (refine Tst.no rfl ?_; conv => whnf)))
          refine LoadV.of (by have := hcl _ _ (top_at t r); rwa [Nat.zero_add] at this) ?_
          (conv => whnf)
          (repeat' (first
      | (refine Obl.mk ⟨by omega, by omega⟩ ?_; conv => whnf)
      | (refine Obl.mk ⟨by omega, by omega, ⟨by omega, by omega⟩⟩ ?_; conv => whnf)
      | ((with_reducible refine Tst.tt ?_); conv => whnf)
      | ((with_reducible refine Tst.ff ?_); conv => whnf)
      | ((with_reducible refine Tst.dec (fun _ => ?_) (fun _ => ?_)) <;> first | (exfalso; omega) | (conv => whnf))
      | ((with_reducible refine Tst.not ?_))
      | (refine Wit.conv ⟨by omega, by omega⟩ ?_; conv => whnf)
      | ((with_reducible refine IdxV.nat (by omega) ?_); conv => whnf)
      | ((with_reducible refine SameW.mk rfl ?_); conv => whnf)
      | (refine LoadV.mem (i := 0) (by assumption) rfl rfl ?_; conv => whnf)
      | (refine LoadV.mem (i := 1) (by assumption) rfl rfl ?_; conv => whnf)
      | (refine LoadV.mem (i := 2) (by assumption) rfl rfl ?_; conv => whnf)
      | ((with_reducible refine Tst.beqT ?_))
      | ((with_reducible refine Tst.beqF ?_))
      | (refine Tst.yes rfl ?_; conv => whnf)
      | (refine Tst.no rfl ?_; conv => whnf)))
          · exact bad _ x5 (by
              by_cases hf : FieldsP n
              · rw [stepH_un hf (by omega) (by omega)]; simp only; rw [if_neg (by omega)]
              · exact stepH_none hf)
          · refine SliceV.rw (m := (t :: r).length - 1) hR5 (by omega) (by omega) ?_
            (conv => whnf)
            refine NewV.rw (hR5.short ((t :: r).length - 1) (by omega)) ?_
            intro ob w6 hR6
            (conv => whnf)
            refine AppV.str1 (i := _) (z := .int .i64 0) Tryz.underlying83 (Option.some_get (by kernel_rfl)).symm (by kernel_rfl) (by kernel_rfl) rfl (by decide +kernel) hR6 rfl (by omega) ?_
            intro B' d' w7 hR7
            rw [push_rev] at hR7
            have hl7 : (t :: r).length - 1 + 1 = (i :: (t :: r).drop 1).length := by simp
            rw [hl7] at hR7 ⊢
            have hm7 := hR7.mem
            have x7 := hR7.mem.ext
            (conv => whnf)
            (repeat' (first
      | (refine Obl.mk ⟨by omega, by omega⟩ ?_; conv => whnf)
      | (refine Obl.mk ⟨by omega, by omega, ⟨by omega, by omega⟩⟩ ?_; conv => whnf)
      | ((with_reducible refine Tst.tt ?_); conv => whnf)
      | ((with_reducible refine Tst.ff ?_); conv => whnf)
      | ((with_reducible refine Tst.dec (fun _ => ?_) (fun _ => ?_)) <;> first | (exfalso; omega) | (conv => whnf))
      | ((with_reducible refine Tst.not ?_))
      | (refine Wit.conv ⟨by omega, by omega⟩ ?_; conv => whnf)
      | ((with_reducible refine IdxV.nat (by omega) ?_); conv => whnf)
      | ((with_reducible refine SameW.mk rfl ?_); conv => whnf)
      | (refine LoadV.mem (i := 0) (by assumption) rfl rfl ?_; conv => whnf)
      | (refine LoadV.mem (i := 1) (by assumption) rfl rfl ?_; conv => whnf)
      | (refine LoadV.mem (i := 2) (by assumption) rfl rfl ?_; conv => whnf)
      | ((with_reducible refine Tst.beqT ?_))
      | ((with_reducible refine Tst.beqF ?_))
      | (refine Tst.yes rfl ?_; conv => whnf)
      | (refine Tst.no rfl ?_; conv => whnf)))
            refine Tst.seq (fun hi => ?_) (fun hi => ?_)
            · (conv => whnf)
              (repeat' (first
      | (refine Obl.mk ⟨by omega, by omega⟩ ?_; conv => whnf)
      | (refine Obl.mk ⟨by omega, by omega, ⟨by omega, by omega⟩⟩ ?_; conv => whnf)
      | ((with_reducible refine Tst.tt ?_); conv => whnf)
      | ((with_reducible refine Tst.ff ?_); conv => whnf)
      | ((with_reducible refine Tst.dec (fun _ => ?_) (fun _ => ?_)) <;> first | (exfalso; omega) | (conv => whnf))
      | ((with_reducible refine Tst.not ?_))
      | (refine Wit.conv ⟨by omega, by omega⟩ ?_; conv => whnf)
      | ((with_reducible refine IdxV.nat (by omega) ?_); conv => whnf)
      | ((with_reducible refine SameW.mk rfl ?_); conv => whnf)
      | (refine LoadV.mem (i := 0) (by assumption) rfl rfl ?_; conv => whnf)
      | (refine LoadV.mem (i := 1) (by assumption) rfl rfl ?_; conv => whnf)
      | (refine LoadV.mem (i := 2) (by assumption) rfl rfl ?_; conv => whnf)
      | ((with_reducible refine Tst.beqT ?_))
      | ((with_reducible refine Tst.beqF ?_))
      | (refine Tst.yes rfl ?_; conv => whnf)
      | (refine Tst.no rfl ?_; conv => whnf)))
              · exact bad _ x7 (stepH_none fun hf => by unfold FieldsP at hf; omega)
              · have hf : FieldsP n := .inr (.inr (.inl ⟨by omega, hi, by omega, by omega⟩))
                rw [stepH_un1 hf (by omega) (by omega) (by omega)] at hr
                refine ⟨(i + 1, i :: (t :: r).drop 1, B', d'), ⟨rfl, rfl, rfl, trivial⟩, ⟨by simp only; omega, hR7.tail, hr, by have := hle; simp at this ⊢ <;> omega⟩, by simp only; omega⟩
            · (conv => whnf)
              (repeat' (first
      | (refine Obl.mk ⟨by omega, by omega⟩ ?_; conv => whnf)
      | (refine Obl.mk ⟨by omega, by omega, ⟨by omega, by omega⟩⟩ ?_; conv => whnf)
      | ((with_reducible refine Tst.tt ?_); conv => whnf)
      | ((with_reducible refine Tst.ff ?_); conv => whnf)
      | ((with_reducible refine Tst.dec (fun _ => ?_) (fun _ => ?_)) <;> first | (exfalso; omega) | (conv => whnf))
      | ((with_reducible refine Tst.not ?_))
      | (refine Wit.conv ⟨by omega, by omega⟩ ?_; conv => whnf)
      | ((with_reducible refine IdxV.nat (by omega) ?_); conv => whnf)
      | ((with_reducible refine SameW.mk rfl ?_); conv => whnf)
      | (refine LoadV.mem (i := 0) (by assumption) rfl rfl ?_; conv => whnf)
      | (refine LoadV.mem (i := 1) (by assumption) rfl rfl ?_; conv => whnf)
      | (refine LoadV.mem (i := 2) (by assumption) rfl rfl ?_; conv => whnf)
      | ((with_reducible refine Tst.beqT ?_))
      | ((with_reducible refine Tst.beqF ?_))
      | (refine Tst.yes rfl ?_; conv => whnf)
      | (refine Tst.no rfl ?_; conv => whnf)))
              exact bad _ x7 (stepH_none fun hf => by unfold FieldsP at hf; simp only [hi] at hf; simp at hf; omega)
      · refine DrawV.quiet (by kernel_rfl) (by kernel_rfl) ?_; conv => whnf
        (repeat' (first
      | (refine Obl.mk ⟨by omega, by omega⟩ ?_; conv => whnf)
      | (refine Obl.mk ⟨by omega, by omega, ⟨by omega, by omega⟩⟩ ?_; conv => whnf)
      | ((with_reducible refine Tst.tt ?_); conv => whnf)
      | ((with_reducible refine Tst.ff ?_); conv => whnf)
      | ((with_reducible refine Tst.dec (fun _ => ?_) (fun _ => ?_)) <;> first | (exfalso; omega) | (conv => whnf))
      | ((with_reducible refine Tst.not ?_))
      | (refine Wit.conv ⟨by omega, by omega⟩ ?_; conv => whnf)
      | ((with_reducible refine IdxV.nat (by omega) ?_); conv => whnf)
      | ((with_reducible refine SameW.mk rfl ?_); conv => whnf)
      | (refine LoadV.mem (i := 0) (by assumption) rfl rfl ?_; conv => whnf)
      | (refine LoadV.mem (i := 1) (by assumption) rfl rfl ?_; conv => whnf)
      | (refine LoadV.mem (i := 2) (by assumption) rfl rfl ?_; conv => whnf)
      | ((with_reducible refine Tst.beqT ?_))
      | ((with_reducible refine Tst.beqF ?_))
      | (refine Tst.yes rfl ?_; conv => whnf)
      | (refine Tst.no rfl ?_; conv => whnf)))
        · exact bad _ x5 (by
            by_cases hf : FieldsP n
            · have e : hp = [] := List.eq_nil_of_length_eq_zero (by omega)
              rw [stepH_un hf (by omega) (by omega), e]
            · exact stepH_none hf)
        · exact bad _ x5 (stepH_none fun hf => by unfold FieldsP at hf; omega)
        · obtain ⟨t, r, rfl⟩ : ∃ t r, hp = t :: r := by
            cases hp with
            | nil => simp at * <;> omega
            | cons t r => exact ⟨t, r, rfl⟩
          obtain ⟨g, rfl, _, _, _, hcl⟩ := hR5.cells (by simp)
          refine ElemV.own1 ((t :: r).length - 1) (by omega) (by simp) ?_
          (conv => whnf)
          (repeat' (first
      | (refine Obl.mk ⟨by omega, by omega⟩ ?_; conv => whnf)
      | (refine Obl.mk ⟨by omega, by omega, ⟨by omega, by omega⟩⟩ ?_; conv => whnf)
      | ((with_reducible refine Tst.tt ?_); conv => whnf)
      | ((with_reducible refine Tst.ff ?_); conv => whnf)
      | ((with_reducible refine Tst.dec (fun _ => ?_) (fun _ => ?_)) <;> first | (exfalso; omega) | (conv => whnf))
      | ((with_reducible refine Tst.not ?_))
      | (refine Wit.conv ⟨by omega, by omega⟩ ?_; conv => whnf)
      | ((with_reducible refine IdxV.nat (by omega) ?_); conv => whnf)
      | ((with_reducible refine SameW.mk rfl ?_); conv => whnf)
      | (refine LoadV.mem (i := 0) (by assumption) rfl rfl ?_; conv => whnf)
      | (refine LoadV.mem (i := 1) (by assumption) rfl rfl ?_; conv => whnf)
      | (refine LoadV.mem (i := 2) (by assumption) rfl rfl ?_; conv => whnf)
      | ((with_reducible refine Tst.beqT ?_))
      | ((with_reducible refine Tst.beqF ?_))
      | (refine Tst.yes rfl ?_; conv => whnf)
      | (refine Tst.no rfl ?_; conv => whnf)))
          refine LoadV.of (by have := hcl _ _ (top_at t r); rwa [Nat.zero_add] at this) ?_
          (conv => whnf)
          (repeat' (first
      | (refine Obl.mk ⟨by omega, by omega⟩ ?_; conv => whnf)
      | (refine Obl.mk ⟨by omega, by omega, ⟨by omega, by omega⟩⟩ ?_; conv => whnf)
      | ((with_reducible refine Tst.tt ?_); conv => whnf)
      | ((with_reducible refine Tst.ff ?_); conv => whnf)
      | ((with_reducible refine Tst.dec (fun _ => ?_) (fun _ => ?_)) <;> first | (exfalso; omega) | (conv => whnf))
      | ((with_reducible refine Tst.not ?_))
      | (refine Wit.conv ⟨by omega, by omega⟩ ?_; conv => whnf)
      | ((with_reducible refine IdxV.nat (by omega) ?_); conv => whnf)
      | ((with_reducible refine SameW.mk rfl ?_); conv => whnf)
      | (refine LoadV.mem (i := 0) (by assumption) rfl rfl ?_; conv => whnf)
      | (refine LoadV.mem (i := 1) (by assumption) rfl rfl ?_; conv => whnf)
      | (refine LoadV.mem (i := 2) (by assumption) rfl rfl ?_; conv => whnf)
      | ((with_reducible refine Tst.beqT ?_))
      | ((with_reducible refine Tst.beqF ?_))
      | (refine Tst.yes rfl ?_; conv => whnf)
      | (refine Tst.no rfl ?_; conv => whnf)))
          · exact bad _ x5 (by
              by_cases hf : FieldsP n
              · rw [stepH_un hf (by omega) (by omega)]; simp only; rw [if_neg (by omega)]
              · exact stepH_none hf)
          · refine SliceV.rw (m := (t :: r).length - 1) hR5 (by omega) (by omega) ?_
            (conv => whnf)
            refine NewV.rw (hR5.short ((t :: r).length - 1) (by omega)) ?_
            intro ob w6 hR6
            (conv => whnf)
            refine AppV.str1 (i := _) (z := .int .i64 0) Tryz.underlying83 (Option.some_get (by kernel_rfl)).symm (by kernel_rfl) (by kernel_rfl) rfl (by decide +kernel) hR6 rfl (by omega) ?_
            intro B' d' w7 hR7
            rw [push_rev] at hR7
            have hl7 : (t :: r).length - 1 + 1 = (i :: (t :: r).drop 1).length := by simp
            rw [hl7] at hR7 ⊢
            have hm7 := hR7.mem
            have x7 := hR7.mem.ext
            (conv => whnf)
            (repeat' (first
      | (refine Obl.mk ⟨by omega, by omega⟩ ?_; conv => whnf)
      | (refine Obl.mk ⟨by omega, by omega, ⟨by omega, by omega⟩⟩ ?_; conv => whnf)
      | ((with_reducible refine Tst.tt ?_); conv => whnf)
      | ((with_reducible refine Tst.ff ?_); conv => whnf)
      | ((with_reducible refine Tst.dec (fun _ => ?_) (fun _ => ?_)) <;> first | (exfalso; omega) | (conv => whnf))
      | ((with_reducible refine Tst.not ?_))
      | (refine Wit.conv ⟨by omega, by omega⟩ ?_; conv => whnf)
      | ((with_reducible refine IdxV.nat (by omega) ?_); conv => whnf)
      | ((with_reducible refine SameW.mk rfl ?_); conv => whnf)
      | (refine LoadV.mem (i := 0) (by assumption) rfl rfl ?_; conv => whnf)
      | (refine LoadV.mem (i := 1) (by assumption) rfl rfl ?_; conv => whnf)
      | (refine LoadV.mem (i := 2) (by assumption) rfl rfl ?_; conv => whnf)
      | ((with_reducible refine Tst.beqT ?_))
      | ((with_reducible refine Tst.beqF ?_))
      | (refine Tst.yes rfl ?_; conv => whnf)
      | (refine Tst.no rfl ?_; conv => whnf)))
            refine Tst.seq (fun hi => ?_) (fun hi => ?_)
            · (conv => whnf)
              (repeat' (first
      | (refine Obl.mk ⟨by omega, by omega⟩ ?_; conv => whnf)
      | (refine Obl.mk ⟨by omega, by omega, ⟨by omega, by omega⟩⟩ ?_; conv => whnf)
      | ((with_reducible refine Tst.tt ?_); conv => whnf)
      | ((with_reducible refine Tst.ff ?_); conv => whnf)
      | ((with_reducible refine Tst.dec (fun _ => ?_) (fun _ => ?_)) <;> first | (exfalso; omega) | (conv => whnf))
      | ((with_reducible refine Tst.not ?_))
      | (refine Wit.conv ⟨by omega, by omega⟩ ?_; conv => whnf)
      | ((with_reducible refine IdxV.nat (by omega) ?_); conv => whnf)
      | ((with_reducible refine SameW.mk rfl ?_); conv => whnf)
      | (refine LoadV.mem (i := 0) (by assumption) rfl rfl ?_; conv => whnf)
      | (refine LoadV.mem (i := 1) (by assumption) rfl rfl ?_; conv => whnf)
      | (refine LoadV.mem (i := 2) (by assumption) rfl rfl ?_; conv => whnf)
      | ((with_reducible refine Tst.beqT ?_))
      | ((with_reducible refine Tst.beqF ?_))
      | (refine Tst.yes rfl ?_; conv => whnf)
      | (refine Tst.no rfl ?_; conv => whnf)))
              · exact bad _ x7 (stepH_none fun hf => by unfold FieldsP at hf; omega)
              · have hf : FieldsP n := .inr (.inr (.inl ⟨by omega, hi, by omega, by omega⟩))
                rw [stepH_un1 hf (by omega) (by omega) (by omega)] at hr
                refine ⟨(i + 1, i :: (t :: r).drop 1, B', d'), ⟨rfl, rfl, rfl, trivial⟩, ⟨by simp only; omega, hR7.tail, hr, by have := hle; simp at this ⊢ <;> omega⟩, by simp only; omega⟩
            · (conv => whnf)
              (repeat' (first
      | (refine Obl.mk ⟨by omega, by omega⟩ ?_; conv => whnf)
      | (refine Obl.mk ⟨by omega, by omega, ⟨by omega, by omega⟩⟩ ?_; conv => whnf)
      | ((with_reducible refine Tst.tt ?_); conv => whnf)
      | ((with_reducible refine Tst.ff ?_); conv => whnf)
      | ((with_reducible refine Tst.dec (fun _ => ?_) (fun _ => ?_)) <;> first | (exfalso; omega) | (conv => whnf))
      | ((with_reducible refine Tst.not ?_))
      | (refine Wit.conv ⟨by omega, by omega⟩ ?_; conv => whnf)
      | ((with_reducible refine IdxV.nat (by omega) ?_); conv => whnf)
      | ((with_reducible refine SameW.mk rfl ?_); conv => whnf)
      | (refine LoadV.mem (i := 0) (by assumption) rfl rfl ?_; conv => whnf)
      | (refine LoadV.mem (i := 1) (by assumption) rfl rfl ?_; conv => whnf)
      | (refine LoadV.mem (i := 2) (by assumption) rfl rfl ?_; conv => whnf)
      | ((with_reducible refine Tst.beqT ?_))
      | ((with_reducible refine Tst.beqF ?_))
      | (refine Tst.yes rfl ?_; conv => whnf)
      | (refine Tst.no rfl ?_; conv => whnf)))
              exact bad _ x7 (stepH_none fun hf => by unfold FieldsP at hf; simp only [hi] at hf; simp at hf; omega)
      · refine DrawV.quiet (by kernel_rfl) (by kernel_rfl) ?_; conv => whnf
        (repeat' (first
      | (refine Obl.mk ⟨by omega, by omega⟩ ?_; conv => whnf)
      | (refine Obl.mk ⟨by omega, by omega, ⟨by omega, by omega⟩⟩ ?_; conv => whnf)
      | ((with_reducible refine Tst.tt ?_); conv => whnf)
      | ((with_reducible refine Tst.ff ?_); conv => whnf)
      | ((with_reducible refine Tst.dec (fun _ => ?_) (fun _ => ?_)) <;> first | (exfalso; omega) | (conv => whnf))
      | ((with_reducible refine Tst.not ?_))
      | (refine Wit.conv ⟨by omega, by omega⟩ ?_; conv => whnf)
      | ((with_reducible refine IdxV.nat (by omega) ?_); conv => whnf)
      | ((with_reducible refine SameW.mk rfl ?_); conv => whnf)
      | (refine LoadV.mem (i := 0) (by assumption) rfl rfl ?_; conv => whnf)
      | (refine LoadV.mem (i := 1) (by assumption) rfl rfl ?_; conv => whnf)
      | (refine LoadV.mem (i := 2) (by assumption) rfl rfl ?_; conv => whnf)
      | ((with_reducible refine Tst.beqT ?_))
      | ((with_reducible refine Tst.beqF ?_))
      | (refine Tst.yes rfl ?_; conv => whnf)
      | (refine Tst.no rfl ?_; conv => whnf)))
        · exact bad _ x5 (by
            by_cases hf : FieldsP n
            · have e : hp = [] := List.eq_nil_of_length_eq_zero (by omega)
              rw [stepH_un hf (by omega) (by omega), e]
            · exact stepH_none hf)
        · exact bad _ x5 (stepH_none fun hf => by unfold FieldsP at hf; omega)
        · obtain ⟨t, r, rfl⟩ : ∃ t r, hp = t :: r := by
            cases hp with
            | nil => simp at * <;> omega
            | cons t r => exact ⟨t, r, rfl⟩
          obtain ⟨g, rfl, _, _, _, hcl⟩ := hR5.cells (by simp)
          refine ElemV.own1 ((t :: r).length - 1) (by omega) (by simp) ?_
          (conv => whnf)
          (repeat' (first
      | (refine Obl.mk ⟨by omega, by omega⟩ ?_; conv => whnf)
      | (refine Obl.mk ⟨by omega, by omega, ⟨by omega, by omega⟩⟩ ?_; conv => whnf)
      | ((with_reducible refine Tst.tt ?_); conv => whnf)
      | ((with_reducible refine Tst.ff ?_); conv => whnf)
      | ((with_reducible refine Tst.dec (fun _ => ?_) (fun _ => ?_)) <;> first | (exfalso; omega) | (conv => whnf))
      | ((with_reducible refine Tst.not ?_))
      | (refine Wit.conv ⟨by omega, by omega⟩ ?_; conv => whnf)
      | ((with_reducible refine IdxV.nat (by omega) ?_); conv => whnf)
      | ((with_reducible refine SameW.mk rfl ?_); conv => whnf)
      | (refine LoadV.mem (i := 0) (by assumption) rfl rfl ?_; conv => whnf)
      | (refine LoadV.mem (i := 1) (by assumption) rfl rfl ?_; conv => whnf)
      | (refine LoadV.mem (i := 2) (by assumption) rfl rfl ?_; conv => whnf)
      | ((with_reducible refine Tst.beqT ?_))
      | ((with_reducible refine Tst.beqF ?_))
      | (refine Tst.yes rfl ?_; conv => whnf)
      | (refine Tst.no rfl ?_; conv => whnf)))
          refine LoadV.of (by have := hcl _ _ (top_at t r); rwa [Nat.zero_add] at this) ?_
          (conv => whnf)
          (repeat' (first
      | (refine Obl.mk ⟨by omega, by omega⟩ ?_; conv => whnf)
      | (refine Obl.mk ⟨by omega, by omega, ⟨by omega, by omega⟩⟩ ?_; conv => whnf)
      | ((with_reducible refine Tst.tt ?_); conv => whnf)
      | ((with_reducible refine Tst.ff ?_); conv => whnf)
      | ((with_reducible refine Tst.dec (fun _ => ?_) (fun _ => ?_)) <;> first | (exfalso; omega) | (conv => whnf))
      | ((with_reducible refine Tst.not ?_))
      | (refine Wit.conv ⟨by omega, by omega⟩ ?_; conv => whnf)
      | ((with_reducible refine IdxV.nat (by omega) ?_); conv => whnf)
      | ((with_reducible refine SameW.mk rfl ?_); conv => whnf)
      | (refine LoadV.mem (i := 0) (by assumption) rfl rfl ?_; conv => whnf)
      | (refine LoadV.mem (i := 1) (by assumption) rfl rfl ?_; conv => whnf)
      | (refine LoadV.mem (i := 2) (by assumption) rfl rfl ?_; conv => whnf)
      | ((with_reducible refine Tst.beqT ?_))
      | ((with_reducible refine Tst.beqF ?_))
      | (refine Tst.yes rfl ?_; conv => whnf)
      | (refine Tst.no rfl ?_; conv => whnf)))
          · exact bad _ x5 (by
              by_cases hf : FieldsP n
              · rw [stepH_un hf (by omega) (by omega)]; simp only; rw [if_neg (by omega)]
              · exact stepH_none hf)
          · refine SliceV.rw (m := (t :: r).length - 1) hR5 (by omega) (by omega) ?_
            (conv => whnf)
            refine NewV.rw (hR5.short ((t :: r).length - 1) (by omega)) ?_
            intro ob w6 hR6
            (conv => whnf)
            refine AppV.str1 (i := _) (z := .int .i64 0) Tryz.underlying83 (Option.some_get (by kernel_rfl)).symm (by kernel_rfl) (by kernel_rfl) rfl (by decide +kernel) hR6 rfl (by omega) ?_
            intro B' d' w7 hR7
            rw [push_rev] at hR7
            have hl7 : (t :: r).length - 1 + 1 = (i :: (t :: r).drop 1).length := by simp
            rw [hl7] at hR7 ⊢
            have hm7 := hR7.mem
            have x7 := hR7.mem.ext
            (conv => whnf)
            (repeat' (first
      | (refine Obl.mk ⟨by omega, by omega⟩ ?_; conv => whnf)
      | (refine Obl.mk ⟨by omega, by omega, ⟨by omega, by omega⟩⟩ ?_; conv => whnf)
      | ((with_reducible refine Tst.tt ?_); conv => whnf)
      | ((with_reducible refine Tst.ff ?_); conv => whnf)
      | ((with_reducible refine Tst.dec (fun _ => ?_) (fun _ => ?_)) <;> first | (exfalso; omega) | (conv => whnf))
      | ((with_reducible refine Tst.not ?_))
      | (refine Wit.conv ⟨by omega, by omega⟩ ?_; conv => whnf)
      | ((with_reducible refine IdxV.nat (by omega) ?_); conv => whnf)
      | ((with_reducible refine SameW.mk rfl ?_); conv => whnf)
      | (refine LoadV.mem (i := 0) (by assumption) rfl rfl ?_; conv => whnf)
      | (refine LoadV.mem (i := 1) (by assumption) rfl rfl ?_; conv => whnf)
      | (refine LoadV.mem (i := 2) (by assumption) rfl rfl ?_; conv => whnf)
      | ((with_reducible refine Tst.beqT ?_))
      | ((with_reducible refine Tst.beqF ?_))
      | (refine Tst.yes rfl ?_; conv => whnf)
      | (refine Tst.no rfl ?_; conv => whnf)))
            refine Tst.seq (fun hi => ?_) (fun hi => ?_)
            · (conv => whnf)
              (repeat' (first
      | (refine Obl.mk ⟨by omega, by omega⟩ ?_; conv => whnf)
      | (refine Obl.mk ⟨by omega, by omega, ⟨by omega, by omega⟩⟩ ?_; conv => whnf)
      | ((with_reducible refine Tst.tt ?_); conv => whnf)
      | ((with_reducible refine Tst.ff ?_); conv => whnf)
      | ((with_reducible refine Tst.dec (fun _ => ?_) (fun _ => ?_)) <;> first | (exfalso; omega) | (conv => whnf))
      | ((with_reducible refine Tst.not ?_))
      | (refine Wit.conv ⟨by omega, by omega⟩ ?_; conv => whnf)
      | ((with_reducible refine IdxV.nat (by omega) ?_); conv => whnf)
      | ((with_reducible refine SameW.mk rfl ?_); conv => whnf)
      | (refine LoadV.mem (i := 0) (by assumption) rfl rfl ?_; conv => whnf)
      | (refine LoadV.mem (i := 1) (by assumption) rfl rfl ?_; conv => whnf)
      | (refine LoadV.mem (i := 2) (by assumption) rfl rfl ?_; conv => whnf)
      | ((with_reducible refine Tst.beqT ?_))
      | ((with_reducible refine Tst.beqF ?_))
      | (refine Tst.yes rfl ?_; conv => whnf)
      | (refine Tst.no rfl ?_; conv => whnf)))
              · exact bad _ x7 (stepH_none fun hf => by unfold FieldsP at hf; omega)
              · have hf : FieldsP n := .inr (.inr (.inl ⟨by omega, hi, by omega, by omega⟩))
                rw [stepH_un1 hf (by omega) (by omega) (by omega)] at hr
                refine ⟨(i + 1, i :: (t :: r).drop 1, B', d'), ⟨rfl, rfl, rfl, trivial⟩, ⟨by simp only; omega, hR7.tail, hr, by have := hle; simp at this ⊢ <;> omega⟩, by simp only; omega⟩
            · (conv => whnf)
              (repeat' (first
      | (refine Obl.mk ⟨by omega, by omega⟩ ?_; conv => whnf)
      | (refine Obl.mk ⟨by omega, by omega, ⟨by omega, by omega⟩⟩ ?_; conv => whnf)
      | ((with_reducible refine Tst.tt ?_); conv => whnf)
      | ((with_reducible refine Tst.ff ?_); conv => whnf)
      | ((with_reducible refine Tst.dec (fun _ => ?_) (fun _ => ?_)) <;> first | (exfalso; omega) | (conv => whnf))
      | ((with_reducible refine Tst.not ?_))
      | (refine Wit.conv ⟨by omega, by omega⟩ ?_; conv => whnf)
      | ((with_reducible refine IdxV.nat (by omega) ?_); conv => whnf)
      | ((with_reducible refine SameW.mk rfl ?_); conv => whnf)
      | (refine LoadV.mem (i := 0) (by assumption) rfl rfl ?_; conv => whnf)
      | (refine LoadV.mem (i := 1) (by assumption) rfl rfl ?_; conv => whnf)
      | (refine LoadV.mem (i := 2) (by assumption) rfl rfl ?_; conv => whnf)
      | ((with_reducible refine Tst.beqT ?_))
      | ((with_reducible refine Tst.beqF ?_))
      | (refine Tst.yes rfl ?_; conv => whnf)
      | (refine Tst.no rfl ?_; conv => whnf)))
              exact bad _ x7 (stepH_none fun hf => by unfold FieldsP at hf; simp only [hi] at hf; simp at hf; omega)
      · refine DrawV.quiet (by kernel_rfl) (by kernel_rfl) ?_; conv => whnf
        (repeat' (first
      | (refine Obl.mk ⟨by omega, by omega⟩ ?_; conv => whnf)
      | (refine Obl.mk ⟨by omega, by omega, ⟨by omega, by omega⟩⟩ ?_; conv => whnf)
      | ((with_reducible refine Tst.tt ?_); conv => whnf)
      | ((with_reducible refine Tst.ff ?_); conv => whnf)
      | ((with_reducible refine Tst.dec (fun _ => ?_) (fun _ => ?_)) <;> first | (exfalso; omega) | (conv => whnf))
      | ((with_reducible refine Tst.not ?_))
      | (refine Wit.conv ⟨by omega, by omega⟩ ?_; conv => whnf)
      | ((with_reducible refine IdxV.nat (by omega) ?_); conv => whnf)
      | ((with_reducible refine SameW.mk rfl ?_); conv => whnf)
      | (refine LoadV.mem (i := 0) (by assumption) rfl rfl ?_; conv => whnf)
      | (refine LoadV.mem (i := 1) (by assumption) rfl rfl ?_; conv => whnf)
      | (refine LoadV.mem (i := 2) (by assumption) rfl rfl ?_; conv => whnf)
      | ((with_reducible refine Tst.beqT ?_))
      | ((with_reducible refine Tst.beqF ?_))
      | (refine Tst.yes rfl ?_; conv => whnf)
      | (refine Tst.no rfl ?_; conv => whnf)))
        · exact bad _ x5 (by
            by_cases hf : FieldsP n
            · rw [stepH_bin hf (by omega)]
              match hp with
              | [] => rfl
              | [t] => rfl
              | t :: u :: r => simp at * <;> omega
            · exact stepH_none hf)
        · obtain ⟨t, u, r, rfl⟩ : ∃ t u r, hp = t :: u :: r := by
            match hp with
            | [] => simp at * <;> omega
            | [t] => simp at * <;> omega
            | t :: u :: r => exact ⟨t, u, r, rfl⟩
          obtain ⟨g, rfl, _, _, _, hcl⟩ := hR5.cells (by simp)
          refine ElemV.own1 ((t :: u :: r).length - 2) (by simp <;> omega) (by simp <;> omega) ?_
          (conv => whnf)
          (repeat' (first
      | (refine Obl.mk ⟨by omega, by omega⟩ ?_; conv => whnf)
      | (refine Obl.mk ⟨by omega, by omega, ⟨by omega, by omega⟩⟩ ?_; conv => whnf)
      | ((with_reducible refine Tst.tt ?_); conv => whnf)
      | ((with_reducible refine Tst.ff ?_); conv => whnf)
      | ((with_reducible refine Tst.dec (fun _ => ?_) (fun _ => ?_)) <;> first | (exfalso; omega) | (conv => whnf))
      | ((with_reducible refine Tst.not ?_))
      | (refine Wit.conv ⟨by omega, by omega⟩ ?_; conv => whnf)
      | ((with_reducible refine IdxV.nat (by omega) ?_); conv => whnf)
      | ((with_reducible refine SameW.mk rfl ?_); conv => whnf)
      | (refine LoadV.mem (i := 0) (by assumption) rfl rfl ?_; conv => whnf)
      | (refine LoadV.mem (i := 1) (by assumption) rfl rfl ?_; conv => whnf)
      | (refine LoadV.mem (i := 2) (by assumption) rfl rfl ?_; conv => whnf)
      | ((with_reducible refine Tst.beqT ?_))
      | ((with_reducible refine Tst.beqF ?_))
      | (refine Tst.yes rfl ?_; conv => whnf)
      | (refine Tst.no rfl ?_; conv => whnf)))
          refine LoadV.of (by have := hcl _ _ (top2_at t u r); rwa [Nat.zero_add] at this) ?_
          (conv => whnf)
          (repeat' (first
      | (refine Obl.mk ⟨by omega, by omega⟩ ?_; conv => whnf)
      | (refine Obl.mk ⟨by omega, by omega, ⟨by omega, by omega⟩⟩ ?_; conv => whnf)
      | ((with_reducible refine Tst.tt ?_); conv => whnf)
      | ((with_reducible refine Tst.ff ?_); conv => whnf)
      | ((with_reducible refine Tst.dec (fun _ => ?_) (fun _ => ?_)) <;> first | (exfalso; omega) | (conv => whnf))
      | ((with_reducible refine Tst.not ?_))
      | (refine Wit.conv ⟨by omega, by omega⟩ ?_; conv => whnf)
      | ((with_reducible refine IdxV.nat (by omega) ?_); conv => whnf)
      | ((with_reducible refine SameW.mk rfl ?_); conv => whnf)
      | (refine LoadV.mem (i := 0) (by assumption) rfl rfl ?_; conv => whnf)
      | (refine LoadV.mem (i := 1) (by assumption) rfl rfl ?_; conv => whnf)
      | (refine LoadV.mem (i := 2) (by assumption) rfl rfl ?_; conv => whnf)
      | ((with_reducible refine Tst.beqT ?_))
      | ((with_reducible refine Tst.beqF ?_))
      | (refine Tst.yes rfl ?_; conv => whnf)
      | (refine Tst.no rfl ?_; conv => whnf)))
          · exact bad _ x5 (by
              by_cases hf : FieldsP n
              · rw [stepH_bin hf (by omega)]; simp only; rw [if_neg (by omega)]
              · exact stepH_none hf)
          · refine ElemV.own1 ((t :: u :: r).length - 1) (by simp <;> omega) (by simp) ?_
            (conv => whnf)
            (repeat' (first
      | (refine Obl.mk ⟨by omega, by omega⟩ ?_; conv => whnf)
      | (refine Obl.mk ⟨by omega, by omega, ⟨by omega, by omega⟩⟩ ?_; conv => whnf)
      | ((with_reducible refine Tst.tt ?_); conv => whnf)
      | ((with_reducible refine Tst.ff ?_); conv => whnf)
      | ((with_reducible refine Tst.dec (fun _ => ?_) (fun _ => ?_)) <;> first | (exfalso; omega) | (conv => whnf))
      | ((with_reducible refine Tst.not ?_))
      | (refine Wit.conv ⟨by omega, by omega⟩ ?_; conv => whnf)
      | ((with_reducible refine IdxV.nat (by omega) ?_); conv => whnf)
      | ((with_reducible refine SameW.mk rfl ?_); conv => whnf)
      | (refine LoadV.mem (i := 0) (by assumption) rfl rfl ?_; conv => whnf)
      | (refine LoadV.mem (i := 1) (by assumption) rfl rfl ?_; conv => whnf)
      | (refine LoadV.mem (i := 2) (by assumption) rfl rfl ?_; conv => whnf)
      | ((with_reducible refine Tst.beqT ?_))
      | ((with_reducible refine Tst.beqF ?_))
      | (refine Tst.yes rfl ?_; conv => whnf)
      | (refine Tst.no rfl ?_; conv => whnf)))
            refine LoadV.of (by have := hcl _ _ (top_at t (u :: r)); rwa [Nat.zero_add] at this) ?_
            (conv => whnf)
            (repeat' (first
      | (refine Obl.mk ⟨by omega, by omega⟩ ?_; conv => whnf)
      | (refine Obl.mk ⟨by omega, by omega, ⟨by omega, by omega⟩⟩ ?_; conv => whnf)
      | ((with_reducible refine Tst.tt ?_); conv => whnf)
      | ((with_reducible refine Tst.ff ?_); conv => whnf)
      | ((with_reducible refine Tst.dec (fun _ => ?_) (fun _ => ?_)) <;> first | (exfalso; omega) | (conv => whnf))
      | ((with_reducible refine Tst.not ?_))
      | (refine Wit.conv ⟨by omega, by omega⟩ ?_; conv => whnf)
      | ((with_reducible refine IdxV.nat (by omega) ?_); conv => whnf)
      | ((with_reducible refine SameW.mk rfl ?_); conv => whnf)
      | (refine LoadV.mem (i := 0) (by assumption) rfl rfl ?_; conv => whnf)
      | (refine LoadV.mem (i := 1) (by assumption) rfl rfl ?_; conv => whnf)
      | (refine LoadV.mem (i := 2) (by assumption) rfl rfl ?_; conv => whnf)
      | ((with_reducible refine Tst.beqT ?_))
      | ((with_reducible refine Tst.beqF ?_))
      | (refine Tst.yes rfl ?_; conv => whnf)
      | (refine Tst.no rfl ?_; conv => whnf)))
            · exact bad _ x5 (by
                by_cases hf : FieldsP n
                · rw [stepH_bin hf (by omega)]; simp only; rw [if_neg (by omega)]
                · exact stepH_none hf)
            · refine SliceV.rw (m := (t :: u :: r).length - 2) hR5 (by omega) (by omega) ?_
              (conv => whnf)
              refine NewV.rw (hR5.short ((t :: u :: r).length - 2) (by omega)) ?_
              intro ob w6 hR6
              (conv => whnf)
              refine AppV.str1 (i := _) (z := .int .i64 0) Tryz.underlying83 (Option.some_get (by kernel_rfl)).symm (by kernel_rfl) (by kernel_rfl) rfl (by decide +kernel) hR6 rfl (by omega) ?_
              intro B' d' w7 hR7
              rw [push_rev] at hR7
              have hl7 : (t :: u :: r).length - 2 + 1 = (i :: (t :: u :: r).drop 2).length := by simp
              rw [hl7] at hR7 ⊢
              have hm7 := hR7.mem
              have x7 := hR7.mem.ext
              (conv => whnf)
              (repeat' (first
      | (refine Obl.mk ⟨by omega, by omega⟩ ?_; conv => whnf)
      | (refine Obl.mk ⟨by omega, by omega, ⟨by omega, by omega⟩⟩ ?_; conv => whnf)
      | ((with_reducible refine Tst.tt ?_); conv => whnf)
      | ((with_reducible refine Tst.ff ?_); conv => whnf)
      | ((with_reducible refine Tst.dec (fun _ => ?_) (fun _ => ?_)) <;> first | (exfalso; omega) | (conv => whnf))
      | ((with_reducible refine Tst.not ?_))
      | (refine Wit.conv ⟨by omega, by omega⟩ ?_; conv => whnf)
      | ((with_reducible refine IdxV.nat (by omega) ?_); conv => whnf)
      | ((with_reducible refine SameW.mk rfl ?_); conv => whnf)
      | (refine LoadV.mem (i := 0) (by assumption) rfl rfl ?_; conv => whnf)
      | (refine LoadV.mem (i := 1) (by assumption) rfl rfl ?_; conv => whnf)
      | (refine LoadV.mem (i := 2) (by assumption) rfl rfl ?_; conv => whnf)
      | ((with_reducible refine Tst.beqT ?_))
      | ((with_reducible refine Tst.beqF ?_))
      | (refine Tst.yes rfl ?_; conv => whnf)
      | (refine Tst.no rfl ?_; conv => whnf)))
              refine Tst.seq (fun hi => ?_) (fun hi => ?_)
              · (conv => whnf)
                (repeat' (first
      | (refine Obl.mk ⟨by omega, by omega⟩ ?_; conv => whnf)
      | (refine Obl.mk ⟨by omega, by omega, ⟨by omega, by omega⟩⟩ ?_; conv => whnf)
      | ((with_reducible refine Tst.tt ?_); conv => whnf)
      | ((with_reducible refine Tst.ff ?_); conv => whnf)
      | ((with_reducible refine Tst.dec (fun _ => ?_) (fun _ => ?_)) <;> first | (exfalso; omega) | (conv => whnf))
      | ((with_reducible refine Tst.not ?_))
      | (refine Wit.conv ⟨by omega, by omega⟩ ?_; conv => whnf)
      | ((with_reducible refine IdxV.nat (by omega) ?_); conv => whnf)
      | ((with_reducible refine SameW.mk rfl ?_); conv => whnf)
      | (refine LoadV.mem (i := 0) (by assumption) rfl rfl ?_; conv => whnf)
      | (refine LoadV.mem (i := 1) (by assumption) rfl rfl ?_; conv => whnf)
      | (refine LoadV.mem (i := 2) (by assumption) rfl rfl ?_; conv => whnf)
      | ((with_reducible refine Tst.beqT ?_))
      | ((with_reducible refine Tst.beqF ?_))
      | (refine Tst.yes rfl ?_; conv => whnf)
      | (refine Tst.no rfl ?_; conv => whnf)))
                · exact bad _ x7 (stepH_none fun hf => by unfold FieldsP at hf; omega)
                · have hf : FieldsP n := .inr (.inr (.inr ⟨by omega, hi, by omega⟩))
                  rw [stepH_bin1 hf (by omega) (by omega) (by omega)] at hr
                  refine ⟨(i + 1, i :: (t :: u :: r).drop 2, B', d'), ⟨rfl, rfl, rfl, trivial⟩, ⟨by simp only; omega, hR7.tail, hr, by have := hle; simp at this ⊢ <;> omega⟩, by simp only; omega⟩
              · (conv => whnf)
                (repeat' (first
      | (refine Obl.mk ⟨by omega, by omega⟩ ?_; conv => whnf)
      | (refine Obl.mk ⟨by omega, by omega, ⟨by omega, by omega⟩⟩ ?_; conv => whnf)
      | ((with_reducible refine Tst.tt ?_); conv => whnf)
      | ((with_reducible refine Tst.ff ?_); conv => whnf)
      | ((with_reducible refine Tst.dec (fun _ => ?_) (fun _ => ?_)) <;> first | (exfalso; omega) | (conv => whnf))
      | ((with_reducible refine Tst.not ?_))
      | (refine Wit.conv ⟨by omega, by omega⟩ ?_; conv => whnf)
      | ((with_reducible refine IdxV.nat (by omega) ?_); conv => whnf)
      | ((with_reducible refine SameW.mk rfl ?_); conv => whnf)
      | (refine LoadV.mem (i := 0) (by assumption) rfl rfl ?_; conv => whnf)
      | (refine LoadV.mem (i := 1) (by assumption) rfl rfl ?_; conv => whnf)
      | (refine LoadV.mem (i := 2) (by assumption) rfl rfl ?_; conv => whnf)
      | ((with_reducible refine Tst.beqT ?_))
      | ((with_reducible refine Tst.beqF ?_))
      | (refine Tst.yes rfl ?_; conv => whnf)
      | (refine Tst.no rfl ?_; conv => whnf)))
                exact bad _ x7 (stepH_none fun hf => by unfold FieldsP at hf; simp only [hi] at hf; simp at hf; omega)
      · refine DrawV.quiet (by kernel_rfl) (by kernel_rfl) ?_; conv => whnf
        (repeat' (first
      | (refine Obl.mk ⟨by omega, by omega⟩ ?_; conv => whnf)
      | (refine Obl.mk ⟨by omega, by omega, ⟨by omega, by omega⟩⟩ ?_; conv => whnf)
      | ((with_reducible refine Tst.tt ?_); conv => whnf)
      | ((with_reducible refine Tst.ff ?_); conv => whnf)
      | ((with_reducible refine Tst.dec (fun _ => ?_) (fun _ => ?_)) <;> first | (exfalso; omega) | (conv => whnf))
      | ((with_reducible refine Tst.not ?_))
      | (refine Wit.conv ⟨by omega, by omega⟩ ?_; conv => whnf)
      | ((with_reducible refine IdxV.nat (by omega) ?_); conv => whnf)
      | ((with_reducible refine SameW.mk rfl ?_); conv => whnf)
      | (refine LoadV.mem (i := 0) (by assumption) rfl rfl ?_; conv => whnf)
      | (refine LoadV.mem (i := 1) (by assumption) rfl rfl ?_; conv => whnf)
      | (refine LoadV.mem (i := 2) (by assumption) rfl rfl ?_; conv => whnf)
      | ((with_reducible refine Tst.beqT ?_))
      | ((with_reducible refine Tst.beqF ?_))
      | (refine Tst.yes rfl ?_; conv => whnf)
      | (refine Tst.no rfl ?_; conv => whnf)))
        · exact bad _ x5 (by
            by_cases hf : FieldsP n
            · rw [stepH_bin hf (by omega)]
              match hp with
              | [] => rfl
              | [t] => rfl
              | t :: u :: r => simp at * <;> omega
            · exact stepH_none hf)
        · obtain ⟨t, u, r, rfl⟩ : ∃ t u r, hp = t :: u :: r := by
            match hp with
            | [] => simp at * <;> omega
            | [t] => simp at * <;> omega
            | t :: u :: r => exact ⟨t, u, r, rfl⟩
          obtain ⟨g, rfl, _, _, _, hcl⟩ := hR5.cells (by simp)
          refine ElemV.own1 ((t :: u :: r).length - 2) (by simp <;> omega) (by simp <;> omega) ?_
          (conv => whnf)
          (repeat' (first
      | (refine Obl.mk ⟨by omega, by omega⟩ ?_; conv => whnf)
      | (refine Obl.mk ⟨by omega, by omega, ⟨by omega, by omega⟩⟩ ?_; conv => whnf)
      | ((with_reducible refine Tst.tt ?_); conv => whnf)
      | ((with_reducible refine Tst.ff ?_); conv => whnf)
      | ((with_reducible refine Tst.dec (fun _ => ?_) (fun _ => ?_)) <;> first | (exfalso; omega) | (conv => whnf))
      | ((with_reducible refine Tst.not ?_))
      | (refine Wit.conv ⟨by omega, by omega⟩ ?_; conv => whnf)
      | ((with_reducible refine IdxV.nat (by omega) ?_); conv => whnf)
      | ((with_reducible refine SameW.mk rfl ?_); conv => whnf)
      | (refine LoadV.mem (i := 0) (by assumption) rfl rfl ?_; conv => whnf)
      | (refine LoadV.mem (i := 1) (by assumption) rfl rfl ?_; conv => whnf)
      | (refine LoadV.mem (i := 2) (by assumption) rfl rfl ?_; conv => whnf)
      | ((with_reducible refine Tst.beqT ?_))
      | ((with_reducible refine Tst.beqF ?_))
      | (refine Tst.yes rfl ?_; conv => whnf)
      | (refine Tst.no rfl ?_; conv => whnf)))
          refine LoadV.of (by have := hcl _ _ (top2_at t u r); rwa [Nat.zero_add] at this) ?_
          (conv => whnf)
          (repeat' (first
      | (refine Obl.mk ⟨by omega, by omega⟩ ?_; conv => whnf)
      | (refine Obl.mk ⟨by omega, by omega, ⟨by omega, by omega⟩⟩ ?_; conv => whnf)
      | ((with_reducible refine Tst.tt ?_); conv => whnf)
      | ((with_reducible refine Tst.ff ?_); conv => whnf)
      | ((with_reducible refine Tst.dec (fun _ => ?_) (fun _ => ?_)) <;> first | (exfalso; omega) | (conv => whnf))
      | ((with_reducible refine Tst.not ?_))
      | (refine Wit.conv ⟨by omega, by omega⟩ ?_; conv => whnf)
      | ((with_reducible refine IdxV.nat (by omega) ?_); conv => whnf)
      | ((with_reducible refine SameW.mk rfl ?_); conv => whnf)
      | (refine LoadV.mem (i := 0) (by assumption) rfl rfl ?_; conv => whnf)
      | (refine LoadV.mem (i := 1) (by assumption) rfl rfl ?_; conv => whnf)
      | (refine LoadV.mem (i := 2) (by assumption) rfl rfl ?_; conv => whnf)
      | ((with_reducible refine Tst.beqT ?_))
      | ((with_reducible refine Tst.beqF ?_))
      | (refine Tst.yes rfl ?_; conv => whnf)
      | (refine Tst.no rfl ?_; conv => whnf)))
          · exact bad _ x5 (by
              by_cases hf : FieldsP n
              · rw [stepH_bin hf (by omega)]; simp only; rw [if_neg (by omega)]
              · exact stepH_none hf)
          · refine ElemV.own1 ((t :: u :: r).length - 1) (by simp <;> omega) (by simp) ?_
            (conv => whnf)
            (repeat' (first
      | (refine Obl.mk ⟨by omega, by omega⟩ ?_; conv => whnf)
      | (refine Obl.mk ⟨by omega, by omega, ⟨by omega, by omega⟩⟩ ?_; conv => whnf)
      | ((with_reducible refine Tst.tt ?_); conv => whnf)
      | ((with_reducible refine Tst.ff ?_); conv => whnf)
      | ((with_reducible refine Tst.dec (fun _ => ?_) (fun _ => ?_)) <;> first | (exfalso; omega) | (conv => whnf))
      | ((with_reducible refine Tst.not ?_))
      | (refine Wit.conv ⟨by omega, by omega⟩ ?_; conv => whnf)
      | ((with_reducible refine IdxV.nat (by omega) ?_); conv => whnf)
      | ((with_reducible refine SameW.mk rfl ?_); conv => whnf)
      | (refine LoadV.mem (i := 0) (by assumption) rfl rfl ?_; conv => whnf)
      | (refine LoadV.mem (i := 1) (by assumption) rfl rfl ?_; conv => whnf)
      | (refine LoadV.mem (i := 2) (by assumption) rfl rfl ?_; conv => whnf)
      | ((with_reducible refine Tst.beqT ?_))
      | ((with_reducible refine Tst.beqF ?_))
      | (refine Tst.yes rfl ?_; conv => whnf)
      | (refine Tst.no rfl ?_; conv => whnf)))
            refine LoadV.of (by have := hcl _ _ (top_at t (u :: r)); rwa [Nat.zero_add] at this) ?_
            (conv => whnf)
            (repeat' (first
      | (refine Obl.mk ⟨by omega, by omega⟩ ?_; conv => whnf)
      | (refine Obl.mk ⟨by omega, by omega, ⟨by omega, by omega⟩⟩ ?_; conv => whnf)
      | ((with_reducible refine Tst.tt ?_); conv => whnf)
      | ((with_reducible refine Tst.ff ?_); conv => whnf)
      | ((with_reducible refine Tst.dec (fun _ => ?_) (fun _ => ?_)) <;> first | (exfalso; omega) | (conv => whnf))
      | ((with_reducible refine Tst.not ?_))
      | (refine Wit.conv ⟨by omega, by omega⟩ ?_; conv => whnf)
      | ((with_reducible refine IdxV.nat (by omega) ?_); conv => whnf)
      | ((with_reducible refine SameW.mk rfl ?_); conv => whnf)
      | (refine LoadV.mem (i := 0) (by assumption) rfl rfl ?_; conv => whnf)
      | (refine LoadV.mem (i := 1) (by assumption) rfl rfl ?_; conv => whnf)
      | (refine LoadV.mem (i := 2) (by assumption) rfl rfl ?_; conv => whnf)
      | ((with_reducible refine Tst.beqT ?_))
      | ((with_reducible refine Tst.beqF ?_))
      | (refine Tst.yes rfl ?_; conv => whnf)
      | (refine Tst.no rfl ?_; conv => whnf)))
            · exact bad _ x5 (by
                by_cases hf : FieldsP n
                · rw [stepH_bin hf (by omega)]; simp only; rw [if_neg (by omega)]
                · exact stepH_none hf)
            · refine SliceV.rw (m := (t :: u :: r).length - 2) hR5 (by omega) (by omega) ?_
              (conv => whnf)
              refine NewV.rw (hR5.short ((t :: u :: r).length - 2) (by omega)) ?_
              intro ob w6 hR6
              (conv => whnf)
              refine AppV.str1 (i := _) (z := .int .i64 0) Tryz.underlying83 (Option.some_get (by kernel_rfl)).symm (by kernel_rfl) (by kernel_rfl) rfl (by decide +kernel) hR6 rfl (by omega) ?_
              intro B' d' w7 hR7
              rw [push_rev] at hR7
              have hl7 : (t :: u :: r).length - 2 + 1 = (i :: (t :: u :: r).drop 2).length := by simp
              rw [hl7] at hR7 ⊢
              have hm7 := hR7.mem
              have x7 := hR7.mem.ext
              (conv => whnf)
              (repeat' (first
      | (refine Obl.mk ⟨by omega, by omega⟩ ?_; conv => whnf)
      | (refine Obl.mk ⟨by omega, by omega, ⟨by omega, by omega⟩⟩ ?_; conv => whnf)
      | ((with_reducible refine Tst.tt ?_); conv => whnf)
      | ((with_reducible refine Tst.ff ?_); conv => whnf)
      | ((with_reducible refine Tst.dec (fun _ => ?_) (fun _ => ?_)) <;> first | (exfalso; omega) | (conv => whnf))
      | ((with_reducible refine Tst.not ?_))
      | (refine Wit.conv ⟨by omega, by omega⟩ ?_; conv => whnf)
      | ((with_reducible refine IdxV.nat (by omega) ?_); conv => whnf)
      | ((with_reducible refine SameW.mk rfl ?_); conv => whnf)
      | (refine LoadV.mem (i := 0) (by assumption) rfl rfl ?_; conv => whnf)
      | (refine LoadV.mem (i := 1) (by assumption) rfl rfl ?_; conv => whnf)
      | (refine LoadV.mem (i := 2) (by assumption) rfl rfl ?_; conv => whnf)
      | ((with_reducible refine Tst.beqT ?_))
      | ((with_reducible refine Tst.beqF ?_))
      | (refine Tst.yes rfl ?_; conv => whnf)
      | (refine Tst.no rfl ?_; conv => whnf)))
              refine Tst.seq (fun hi => ?_) (fun hi => ?_)
              · (conv => whnf)
                (repeat' (first
      | (refine Obl.mk ⟨by omega, by omega⟩ ?_; conv => whnf)
      | (refine Obl.mk ⟨by omega, by omega, ⟨by omega, by omega⟩⟩ ?_; conv => whnf)
      | ((with_reducible refine Tst.tt ?_); conv => whnf)
      | ((with_reducible refine Tst.ff ?_); conv => whnf)
      | ((with_reducible refine Tst.dec (fun _ => ?_) (fun _ => ?_)) <;> first | (exfalso; omega) | (conv => whnf))
      | ((with_reducible refine Tst.not ?_))
      | (refine Wit.conv ⟨by omega, by omega⟩ ?_; conv => whnf)
      | ((with_reducible refine IdxV.nat (by omega) ?_); conv => whnf)
      | ((with_reducible refine SameW.mk rfl ?_); conv => whnf)
      | (refine LoadV.mem (i := 0) (by assumption) rfl rfl ?_; conv => whnf)
      | (refine LoadV.mem (i := 1) (by assumption) rfl rfl ?_; conv => whnf)
      | (refine LoadV.mem (i := 2) (by assumption) rfl rfl ?_; conv => whnf)
      | ((with_reducible refine Tst.beqT ?_))
      | ((with_reducible refine Tst.beqF ?_))
      | (refine Tst.yes rfl ?_; conv => whnf)
      | (refine Tst.no rfl ?_; conv => whnf)))
                · exact bad _ x7 (stepH_none fun hf => by unfold FieldsP at hf; omega)
                · have hf : FieldsP n := .inr (.inr (.inr ⟨by omega, hi, by omega⟩))
                  rw [stepH_bin1 hf (by omega) (by omega) (by omega)] at hr
                  refine ⟨(i + 1, i :: (t :: u :: r).drop 2, B', d'), ⟨rfl, rfl, rfl, trivial⟩, ⟨by simp only; omega, hR7.tail, hr, by have := hle; simp at this ⊢ <;> omega⟩, by simp only; omega⟩
              · (conv => whnf)
                (repeat' (first
      | (refine Obl.mk ⟨by omega, by omega⟩ ?_; conv => whnf)
      | (refine Obl.mk ⟨by omega, by omega, ⟨by omega, by omega⟩⟩ ?_; conv => whnf)
      | ((with_reducible refine Tst.tt ?_); conv => whnf)
      | ((with_reducible refine Tst.ff ?_); conv => whnf)
      | ((with_reducible refine Tst.dec (fun _ => ?_) (fun _ => ?_)) <;> first | (exfalso; omega) | (conv => whnf))
      | ((with_reducible refine Tst.not ?_))
      | (refine Wit.conv ⟨by omega, by omega⟩ ?_; conv => whnf)
      | ((with_reducible refine IdxV.nat (by omega) ?_); conv => whnf)
      | ((with_reducible refine SameW.mk rfl ?_); conv => whnf)
      | (refine LoadV.mem (i := 0) (by assumption) rfl rfl ?_; conv => whnf)
      | (refine LoadV.mem (i := 1) (by assumption) rfl rfl ?_; conv => whnf)
      | (refine LoadV.mem (i := 2) (by assumption) rfl rfl ?_; conv => whnf)
      | ((with_reducible refine Tst.beqT ?_))
      | ((with_reducible refine Tst.beqF ?_))
      | (refine Tst.yes rfl ?_; conv => whnf)
      | (refine Tst.no rfl ?_; conv => whnf)))
                exact bad _ x7 (stepH_none fun hf => by unfold FieldsP at hf; simp only [hi] at hf; simp at hf; omega)
      · exact bad _ hR4.mem.ext (stepH_none fun hf => by unfold FieldsP at hf; omega)
    · have hi : i = p.length := by omega
      subst hi
      rw [List.drop_eq_nil_of_le (Nat.le_refl _), runH] at hr
      refine ⟨?_, hR.mem.ext⟩
      rw [pathE_no (fun h => by
        obtain ⟨_, _, x, hx⟩ := h
        rw [hr] at hx
        cases hx
        simp at *)]; rfl
    · have hi : i = p.length := by omega
      subst hi
      rw [List.drop_eq_nil_of_le (Nat.le_refl _), runH] at hr
      refine ⟨?_, hR.mem.ext⟩
      have hp1 : hp.length = 1 := by omega
      obtain ⟨x, rfl⟩ : ∃ x, hp = [x] := by
        match hp, hp1 with
        | [x], _ => exact ⟨x, rfl⟩
      rw [pathE_ok ⟨by omega, by omega, x, hr⟩]; rfl
end Go.Proofs.YtajgbepghniciaaGreatDoor
