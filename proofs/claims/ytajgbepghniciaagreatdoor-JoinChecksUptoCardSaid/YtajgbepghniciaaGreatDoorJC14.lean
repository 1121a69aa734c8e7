/- Lemmas and contracts of functions on the way to the law's card (part 14 of 17). -/
import Derived.Test.YtajgbepghniciaaGreatDoorJC13
namespace Go.Proofs.YtajgbepghniciaaGreatDoor
open Go.RowKit V
set_option maxRecDepth 100000
namespace V
theorem StoreA.rwAll {P : Program} {w0 w : World} {v : Value} {e : TypeId} {size n : Nat} {xs : List Value} {L : List (Nat × Obj)} {b : Nat} {cur : Array Value} {t : TypeId} {vs : List Value} {K : World → Prop} (h : Rw w0 w v e size n xs ((b, .cells cur t (0, 0)) :: L))
    (hl : cur.size = vs.length) (h1 : ∀ v ∈ vs, v.oneCell' = true) (hk : ∀ w', Rw w0 w' v e size n xs ((b, .cells vs.toArray t (0, 0)) :: L) → K w') : StoreA P w b 0 vs K := by
  have hg := h.mem.get (List.mem_cons_self ..)
  have hb : v.ownBlock ≠ some b := h.apart _ (List.mem_cons_self ..)
  have hr := run_storeCells_at P b 0 t vs 0 cur w hg (by simp; omega) h1
  have ec : (cur.toList.take (0 + 0) ++ vs ++ cur.toList.drop (0 + 0 + vs.length)).toArray = vs.toArray := by
    rw [List.take_zero, List.nil_append, List.drop_eq_nil_of_le (by simp; omega), List.append_nil]
  rw [ec] at hr
  refine ⟨_, hr, hk _ ⟨?_, ?_, fun y hy => ?_⟩⟩
  · have := h.mem.set (i := 0) (b := b) (o := .cells cur t (0, 0)) (o' := .cells vs.toArray t (0, 0)) rfl (w' := w.setRow b vs.toArray) ?_ (heap_setRow hg) (fun c hc => heap_setRow_other hc)
    · exact this
    · exact Below.trans h.mem.ext ⟨rfl, rfl, rfl, by simp [World.setRow], fun k hk => heap_setRow_other (by have := (h.mem.own _ (List.mem_cons_self ..)).1; simp only at this; omega)⟩
  · refine h.own.kept (row := some b) ⟨rfl, rfl, rfl, by simp [World.setRow], fun k _ hk => heap_setRow_other (fun e => hk (by simp [e]))⟩ (Or.inr hb)
  · rcases List.mem_cons.1 hy with rfl | hy
    · exact hb
    · exact h.apart y (List.mem_cons_of_mem _ hy)
end V
structure OL where
  v : ByteArray
  down : Bool
structure QL where
  ga : Option Addr
  gc : Nat
  gs : List GL
  ta : Option Addr
  tc : Nat
  ts : List TS
  sa : Option Addr
  sc : Nat
  ss : List ByteArray
  di : Bool
  oa : Option Addr
  oc : Nat
  os : List OL
  sk : Int
  li : Int
def tsC (t : TS) : List Value := [.int .i64 t.op, .string t.l.v, .int .i64 t.l.t.kind, .string t.l.t.text, .string t.l.t.type, .string t.l.t.lang, .string t.r.v, .int .i64 t.r.t.kind, .string t.r.t.text, .string t.r.t.type, .string t.r.t.lang]
def olC (o : OL) : List Value := [.string o.v, .bool o.down]
def queryV (q : QL) : Value := .agg #[.slice q.ga q.gs.length q.gc, .slice q.ta q.ts.length q.tc, .slice q.sa q.ss.length q.sc, .bool q.di, .slice q.oa q.os.length q.oc, .int .i64 q.sk, .int .i64 q.li]
abbrev qB (b : Nat) (q : QL) : Nat × Obj := (b, .cells #[.slice q.ga q.gs.length q.gc, .slice q.ta q.ts.length q.tc, .slice q.sa q.ss.length q.sc, .bool q.di, .slice q.oa q.os.length q.oc, .int .i64 q.sk, .int .i64 q.li] 40 (0, 0))
abbrev gB (r : Nat) (g : GL) : Nat × Obj := (r, .cells (goC g).toArray 97 (0, 0))
structure QAt (w : World) (q : QL) : Prop where
  g : SlAt goC 20 w q.ga q.gs
  t : SlAt tsC 11 w q.ta q.ts
  s : SlAt V.encS 1 w q.sa q.ss
  o : SlAt olC 2 w q.oa q.os
structure QOk (q : QL) : Prop where
  g : ∀ g ∈ q.gs, GoalOk g
  t : ∀ t ∈ q.ts, SlotOk t.l ∧ SlotOk t.r ∧ InR .i64 t.op
  gl : q.gs.length ≤ 1048576
  tl : q.ts.length ≤ 1048576
  sl : q.ss.length ≤ 1048576
  ol : q.os.length ≤ 1048576
theorem QAt.ext {w w' : World} {q : QL} (h : QAt w q) (he : Ext w w') : QAt w' q := ⟨h.g.ext he, h.t.ext he, h.s.ext he, h.o.ext he⟩
def names4 (g : GL) : List ByteArray := [g.s.v, g.p.v, g.o.v, g.g.v]
theorem names4_at (g : GL) (k : Nat) (hk : k < 4) : (names4 g)[k]? = some (g.at k).v := by
  obtain rfl | rfl | rfl | rfl : k = 0 ∨ k = 1 ∨ k = 2 ∨ k = 3 := by omega
  all_goals rfl
theorem names4_take (g : GL) (k : Nat) (hk : k < 4) : (names4 g).take (k + 1) = (names4 g).take k ++ [(g.at k).v] := by
  rw [List.take_add_one, names4_at g k hk]; rfl
def fullL (l : List ByteArray) : List ByteArray := l.filter fun x => !seq x ⟨#[]⟩
theorem fullL_app (l m : List ByteArray) : fullL (l ++ m) = fullL l ++ fullL m := List.filter_append ..
def varsL (gs : List GL) : List ByteArray := fullL (gs.flatMap names4)
theorem put_len (s : List ByteArray) (x : ByteArray) (n : Nat) : (s.take n ++ x :: s.drop n).length = s.length + 1 := by simp; omega
theorem put_at (s : List ByteArray) (x : ByteArray) (n : Nat) (hn : n ≤ s.length) : (s.take n ++ x :: s.drop n)[n]? = some x := by
  rw [List.getElem?_append_right (by rw [List.length_take]; omega), List.length_take, Nat.min_eq_left hn, Nat.sub_self, List.getElem?_cons_zero]
theorem put_low (s : List ByteArray) (x : ByteArray) (n j : Nat) (hn : n ≤ s.length) (hj : j < n) : (s.take n ++ x :: s.drop n)[j]? = s[j]? := by
  rw [List.getElem?_append_left (by rw [List.length_take]; omega), List.getElem?_take, if_pos hj]
theorem put_step (s : List ByteArray) (x : ByteArray) (n : Nat) (hn : n + 1 ≤ s.length) : ((s.take (n + 1) ++ x :: s.drop (n + 1)).set (n + 1) (s[n]'(by omega))).set n x = s.take n ++ x :: s.drop n := by
  have h1 : s.take (n + 1) = s.take n ++ [s[n]'(by omega)] := by rw [List.take_succ_eq_append_getElem (by omega)]
  have h2 : s.drop n = s[n]'(by omega) :: s.drop (n + 1) := List.drop_eq_getElem_cons (by omega)
  have hl : (s.take n).length = n := by simp; omega
  rw [h1, h2]
  rw [List.set_append_right _ _ (by simp; omega)]
  simp only [List.length_append, hl, List.length_singleton, Nat.sub_self, List.set_cons_zero]
  rw [List.append_assoc, List.set_append_right _ _ (by omega), hl, Nat.sub_self]
  rfl
theorem strs_set (l : List ByteArray) (j : Nat) (x : ByteArray) : (l.map Value.string).set j (.string x) = (l.set j x).map Value.string := by rw [List.map_set]
/-- the names of a query: in their order, each once -/
structure VarsAt (w : World) (gs : List GL) (A : Option Addr) (l : List ByteArray) : Prop where
  sl : SlAt V.encS 1 w A l
  so : Sorted l
  mem : ∀ x, x ∈ l ↔ x ∈ varsL gs
  len : l.length ≤ 4 * gs.length
set_option maxHeartbeats 1000000 in
theorem refVars_any (q : QL) (w : World) (hq : QAt w q) (ho : QOk q) :
    Gv Tryz.prog 15 [queryV q] w fun v w' => ∃ A c l, v = .slice A l.length c ∧ VarsAt w' q.gs A l ∧ Ext w w' := by
  refine gv (by kernel_rfl) Tryz.func15 rfl Tryz.ntmps15 rfl ?_; conv => whnf
  refine NewV.mem (Mem.nil w) ?_
  intro b w1 hm
  (conv => whnf)
  refine loopV (fun x : Nat × List ByteArray × Option Addr × Nat => [(1, .pointer (some ⟨b, 0, none⟩)), (3, .slice x.2.2.1 x.2.1.length x.2.2.2), (4, .int .i64 x.1)])
    (fun x w2 => x.1 ≤ q.gs.length ∧ Rw w w2 (.slice x.2.2.1 x.2.1.length x.2.2.2) 9 1 x.2.1.length (x.2.1.map Value.string) [qB b q] ∧
      Sorted x.2.1 ∧ (∀ y, y ∈ x.2.1 ↔ y ∈ fullL ((q.gs.take x.1).flatMap names4)) ∧ x.2.1.length ≤ 4 * x.1) (fun x => q.gs.length - x.1) (0, [], none, 0) ⟨rfl, rfl, rfl, trivial⟩ ⟨by simp, Rw.nil hm, List.Pairwise.nil, fun y => by simp [fullL], by simp⟩ ?_
  rintro ⟨i, l, A, c⟩ w2 ρ' ⟨h1, hR, hso, hmem, hlen⟩
  simp only at h1 hR hso hmem hlen
  have hgl := ho.gl
  (conv => whnf)
  refine LoadV.mem hR.mem (i := 0) rfl rfl ?_
  (conv => whnf)
  (repeat' (first
      | (refine Obl.mk ⟨by omega, by omega⟩ ?_; conv => whnf)
      | (refine Obl.mk ⟨by omega, by omega, ⟨by omega, by omega⟩⟩ ?_; conv => whnf)
      | ((with_reducible refine Tst.tt ?_); conv => whnf)
      | ((with_reducible refine Tst.ff ?_); conv => whnf)
      | ((with_reducible refine Tst.dec (fun _ => ?_) (fun _ => ?_)) <;> first | (exfalso; omega) | (conv => whnf))
      | ((with_reducible refine Tst.not ?_))
      | (refine Wit.conv ⟨by omega, by omega⟩ ?_; conv => whnf)
      | ((with_reducible refine IdxV.nat (by omega) ?_); conv => whnf)
      | ((with_reducible refine SameW.mk rfl ?_); conv => whnf)
      | (refine LoadV.mem (i := 0) (by assumption) rfl rfl ?_; conv => whnf)
      | (refine LoadV.mem (i := 1) (by assumption) rfl rfl ?_; conv => whnf)
      | (refine LoadV.mem (i := 2) (by assumption) rfl rfl ?_; conv => whnf)
      | ((with_reducible refine Tst.beqT ?_))
      | ((with_reducible refine Tst.beqF ?_))
      | (refine Tst.yes rfl ?_; conv => whnf)
      | (refine Tst.no rfl ?_; conv => whnf)))
  · have hi : i < q.gs.length := by omega
    refine LoadV.mem hR.mem (i := 0) rfl rfl ?_
    (conv => whnf)
    refine ElemV.sl (hq.g.ext hR.mem.ext) rfl i rfl hi ?_
    intro gb goff hc
    (conv => whnf)
    refine LoadA.cells hc rfl ?_
    (conv => whnf)
    refine CallV.of (refSlots_any q.gs[i] w2) ?_
    rintro v w3 ⟨rfl, he3⟩
    have hR := hR.call he3
    (conv => whnf)
    refine NewV.rw hR ?_
    intro r w4 hR
    (conv => whnf)
    refine StoreA.rwAll hR rfl (goC_one q.gs[i]) ?_
    intro w5 hR
    (conv => whnf)
    have htk : q.gs.take (i + 1) = q.gs.take i ++ [q.gs[i]] := by rw [List.take_succ_eq_append_getElem hi]
    refine loopV (fun x : Nat × List ByteArray × Option Addr × Nat => [(1, .pointer (some ⟨b, 0, none⟩)), (3, .slice x.2.2.1 x.2.1.length x.2.2.2), (4, .int .i64 i), (5, .pointer (some ⟨r, 0, none⟩)), (6, .int .i64 x.1)])
      (fun x w6 => x.1 ≤ 4 ∧ Rw w w6 (.slice x.2.2.1 x.2.1.length x.2.2.2) 9 1 x.2.1.length (x.2.1.map Value.string) [gB r q.gs[i], qB b q] ∧
        Sorted x.2.1 ∧ (∀ y, y ∈ x.2.1 ↔ y ∈ fullL ((q.gs.take i).flatMap names4 ++ (names4 q.gs[i]).take x.1)) ∧ x.2.1.length ≤ 4 * i + x.1) (fun x => 4 - x.1) (0, l, A, c) ⟨rfl, rfl, rfl, rfl, rfl, trivial⟩ ⟨by simp, hR, hso, fun y => by simpa using hmem y, by simpa using hlen⟩ ?_
    clear hR hso hmem hlen hc
    rintro ⟨k, s, A, c⟩ w6 ρ' ⟨k1, hR, hso, hmem, hlen⟩
    simp only at k1 hR hso hmem hlen
    (conv => whnf)
    (repeat' (first
      | (refine Obl.mk ⟨by omega, by omega⟩ ?_; conv => whnf)
      | (refine Obl.mk ⟨by omega, by omega, ⟨by omega, by omega⟩⟩ ?_; conv => whnf)
      | ((with_reducible refine Tst.tt ?_); conv => whnf)
      | ((with_reducible refine Tst.ff ?_); conv => whnf)
      | ((with_reducible refine Tst.dec (fun _ => ?_) (fun _ => ?_)) <;> first | (exfalso; omega) | (conv => whnf))
      | ((with_reducible refine Tst.not ?_))
      | (refine Wit.conv ⟨by omega, by omega⟩ ?_; conv => whnf)
      | ((with_reducible refine IdxV.nat (by omega) ?_); conv => whnf)
      | ((with_reducible refine SameW.mk rfl ?_); conv => whnf)
      | (refine LoadV.mem (i := 0) (by assumption) rfl rfl ?_; conv => whnf)
      | (refine LoadV.mem (i := 1) (by assumption) rfl rfl ?_; conv => whnf)
      | (refine LoadV.mem (i := 2) (by assumption) rfl rfl ?_; conv => whnf)
      | ((with_reducible refine Tst.beqT ?_))
      | ((with_reducible refine Tst.beqF ?_))
      | (refine Tst.yes rfl ?_; conv => whnf)
      | (refine Tst.no rfl ?_; conv => whnf)))
    · have hk : k < 4 := by omega
      have hcl : CellsAt w6 r (0 + k * 5) (slC (q.gs[i].at k)) := goC_at (CellsAt.mem hR.mem (List.mem_cons_self ..)) k hk
      have hstep : ∀ y, y ∈ fullL ((q.gs.take i).flatMap names4 ++ (names4 q.gs[i]).take (k + 1)) ↔ y ∈ s ∨ y ∈ fullL [(q.gs[i].at k).v] := fun y => by
        rw [names4_take _ _ hk, ← List.append_assoc, fullL_app, List.mem_append, hmem]
      obtain ⟨x, hx⟩ : ∃ x, x = (q.gs[i].at k).v := ⟨_, rfl⟩
      rw [← hx] at hstep
      replace hcl : w6.cell? ⟨r, 0 + k * 5, none⟩ = some (.string x) := by rw [hx]; exact hcl 0 _ rfl
      refine LoadV.of hcl ?_
      (conv => whnf)
      cases hv : seq x ⟨#[]⟩
      · have hf : fullL [x] = [x] := by simp [fullL, hv]
        rw [hf] at hstep
        (conv => whnf)
        (repeat' (first
      | (refine Obl.mk ⟨by omega, by omega⟩ ?_; conv => whnf)
      | (refine Obl.mk ⟨by omega, by omega, ⟨by omega, by omega⟩⟩ ?_; conv => whnf)
      | ((with_reducible refine Tst.tt ?_); conv => whnf)
      | ((with_reducible refine Tst.ff ?_); conv => whnf)
      | ((with_reducible refine Tst.dec (fun _ => ?_) (fun _ => ?_)) <;> first | (exfalso; omega) | (conv => whnf))
      | ((with_reducible refine Tst.not ?_))
      | (refine Wit.conv ⟨by omega, by omega⟩ ?_; conv => whnf)
      | ((with_reducible refine IdxV.nat (by omega) ?_); conv => whnf)
      | ((with_reducible refine SameW.mk rfl ?_); conv => whnf)
      | (refine LoadV.mem (i := 0) (by assumption) rfl rfl ?_; conv => whnf)
      | (refine LoadV.mem (i := 1) (by assumption) rfl rfl ?_; conv => whnf)
      | (refine LoadV.mem (i := 2) (by assumption) rfl rfl ?_; conv => whnf)
      | ((with_reducible refine Tst.beqT ?_))
      | ((with_reducible refine Tst.beqF ?_))
      | (refine Tst.yes rfl ?_; conv => whnf)
      | (refine Tst.no rfl ?_; conv => whnf)))
        refine LoadV.of hcl ?_
        (conv => whnf)
        (repeat' (first
      | (refine Obl.mk ⟨by omega, by omega⟩ ?_; conv => whnf)
      | (refine Obl.mk ⟨by omega, by omega, ⟨by omega, by omega⟩⟩ ?_; conv => whnf)
      | ((with_reducible refine Tst.tt ?_); conv => whnf)
      | ((with_reducible refine Tst.ff ?_); conv => whnf)
      | ((with_reducible refine Tst.dec (fun _ => ?_) (fun _ => ?_)) <;> first | (exfalso; omega) | (conv => whnf))
      | ((with_reducible refine Tst.not ?_))
      | (refine Wit.conv ⟨by omega, by omega⟩ ?_; conv => whnf)
      | ((with_reducible refine IdxV.nat (by omega) ?_); conv => whnf)
      | ((with_reducible refine SameW.mk rfl ?_); conv => whnf)
      | (refine LoadV.mem (i := 0) (by assumption) rfl rfl ?_; conv => whnf)
      | (refine LoadV.mem (i := 1) (by assumption) rfl rfl ?_; conv => whnf)
      | (refine LoadV.mem (i := 2) (by assumption) rfl rfl ?_; conv => whnf)
      | ((with_reducible refine Tst.beqT ?_))
      | ((with_reducible refine Tst.beqF ?_))
      | (refine Tst.yes rfl ?_; conv => whnf)
      | (refine Tst.no rfl ?_; conv => whnf)))
        refine CallV.of (number_any s A c x w6 hR.strs.1 (by omega)) ?_
        rintro v w7 ⟨⟨j, rfl, j0, j1, hj⟩, rfl⟩
        (conv => whnf)
        (repeat' (first
      | (refine Obl.mk ⟨by omega, by omega⟩ ?_; conv => whnf)
      | (refine Obl.mk ⟨by omega, by omega, ⟨by omega, by omega⟩⟩ ?_; conv => whnf)
      | ((with_reducible refine Tst.tt ?_); conv => whnf)
      | ((with_reducible refine Tst.ff ?_); conv => whnf)
      | ((with_reducible refine Tst.dec (fun _ => ?_) (fun _ => ?_)) <;> first | (exfalso; omega) | (conv => whnf))
      | ((with_reducible refine Tst.not ?_))
      | (refine Wit.conv ⟨by omega, by omega⟩ ?_; conv => whnf)
      | ((with_reducible refine IdxV.nat (by omega) ?_); conv => whnf)
      | ((with_reducible refine SameW.mk rfl ?_); conv => whnf)
      | (refine LoadV.mem (i := 0) (by assumption) rfl rfl ?_; conv => whnf)
      | (refine LoadV.mem (i := 1) (by assumption) rfl rfl ?_; conv => whnf)
      | (refine LoadV.mem (i := 2) (by assumption) rfl rfl ?_; conv => whnf)
      | ((with_reducible refine Tst.beqT ?_))
      | ((with_reducible refine Tst.beqF ?_))
      | (refine Tst.yes rfl ?_; conv => whnf)
      | (refine Tst.no rfl ?_; conv => whnf)))
        · exact ⟨(k + 1, s, A, c), ⟨rfl, rfl, rfl, rfl, rfl, trivial⟩, ⟨by simp only; omega, hR, hso, fun y => by
            rw [hstep, List.mem_singleton]
            exact ⟨fun h => .inl h, fun h => h.elim id fun e => e ▸ hj.2 (by omega)⟩, by simp only; omega⟩, by simp only; omega⟩
        · have hxs : x ∉ s := fun h => by have := hj.1 h; omega
          refine LoadV.of hcl ?_
          (conv => whnf)
          refine NewV.rw hR ?_
          intro nb w8 hR8
          (conv => whnf)
          refine AppV.one strSl strI strZ (by kernel_rfl) rfl (by decide +kernel) hR8 rfl (by show s.length + 1 ≤ _; omega) ?_
          intro B d w9 hR9
          obtain ⟨g0, rfl, _, _, hcd, _⟩ := hR9.cells (by omega)
          have hR9 : Rw w w9 (.slice (some ⟨g0, 0, none⟩) (s.length + 1) d) 9 1 (s.length + 1) ((s.take s.length ++ x :: s.drop s.length).map Value.string) [gB r q.gs[i], qB b q] := by
            simpa using hR9
          (conv => whnf)
          change Obl (InR .i64 (((s.length + 1 : Nat) : Int) - 1)) _
          (repeat' (first
      | (refine Obl.mk ⟨by omega, by omega⟩ ?_; conv => whnf)
      | (refine Obl.mk ⟨by omega, by omega, ⟨by omega, by omega⟩⟩ ?_; conv => whnf)
      | ((with_reducible refine Tst.tt ?_); conv => whnf)
      | ((with_reducible refine Tst.ff ?_); conv => whnf)
      | ((with_reducible refine Tst.dec (fun _ => ?_) (fun _ => ?_)) <;> first | (exfalso; omega) | (conv => whnf))
      | ((with_reducible refine Tst.not ?_))
      | (refine Wit.conv ⟨by omega, by omega⟩ ?_; conv => whnf)
      | ((with_reducible refine IdxV.nat (by omega) ?_); conv => whnf)
      | ((with_reducible refine SameW.mk rfl ?_); conv => whnf)
      | (refine LoadV.mem (i := 0) (by assumption) rfl rfl ?_; conv => whnf)
      | (refine LoadV.mem (i := 1) (by assumption) rfl rfl ?_; conv => whnf)
      | (refine LoadV.mem (i := 2) (by assumption) rfl rfl ?_; conv => whnf)
      | ((with_reducible refine Tst.beqT ?_))
      | ((with_reducible refine Tst.beqF ?_))
      | (refine Tst.yes rfl ?_; conv => whnf)
      | (refine Tst.no rfl ?_; conv => whnf)))
          refine loopV (fun n : Nat => [(1, .pointer (some ⟨b, 0, none⟩)), (3, .slice (some ⟨g0, 0, none⟩) (s.length + 1) d), (4, .int .i64 i), (5, .pointer (some ⟨r, 0, none⟩)), (6, .int .i64 k), (7, .int .i64 n)])
            (fun n w' => n ≤ s.length ∧ Rw w w' (.slice (some ⟨g0, 0, none⟩) (s.length + 1) d) 9 1 (s.length + 1) ((s.take n ++ x :: s.drop n).map Value.string) [gB r q.gs[i], qB b q] ∧
              ∀ y ∈ s.drop n, slt x y = true) (fun n => n) s.length ⟨rfl, rfl, rfl, rfl, rfl, by exact congrArg (Value.int .i64) (by show ((s.length + 1 : Nat) : Int) - 1 = (s.length : Int); omega), trivial⟩ ⟨by omega, hR9, fun y hy => by simp at hy⟩ ?_
          clear hR9 hR8 hR
          rintro n w10 ρ' ⟨n1, hR, hlt⟩
          have hdone : (∀ y, s[n - 1]? = some y → 0 < n → slt x y = false) → ∀ w', Rw w w' (.slice (some ⟨g0, 0, none⟩) (s.length + 1) d) 9 1 (s.length + 1) ((s.take n ++ x :: s.drop n).map Value.string) [gB r q.gs[i], qB b q] →
              4 ≥ k + 1 ∧ Rw w w' (.slice (some ⟨g0, 0, none⟩) (s.take n ++ x :: s.drop n).length d) 9 1 (s.take n ++ x :: s.drop n).length ((s.take n ++ x :: s.drop n).map Value.string) [gB r q.gs[i], qB b q] ∧
              Sorted (s.take n ++ x :: s.drop n) ∧ (∀ y, y ∈ s.take n ++ x :: s.drop n ↔ y ∈ fullL ((q.gs.take i).flatMap names4 ++ (names4 q.gs[i]).take (k + 1))) ∧ (s.take n ++ x :: s.drop n).length ≤ 4 * i + (k + 1) := fun h2 w' hR => by
            rw [put_len]
            refine ⟨by omega, hR, sorted_put hso hxs n1 hlt h2, fun y => ?_, by omega⟩
            rw [hstep, List.mem_singleton, List.mem_append, List.mem_cons]
            conv => rhs; rw [← List.take_append_drop n s, List.mem_append]
            constructor
            · rintro (h | h | h)
              · exact .inl (.inl h)
              · exact .inr h
              · exact .inl (.inr h)
            · rintro ((h | h) | h)
              · exact .inl h
              · exact .inr (.inr h)
              · exact .inr (.inl h)
          obtain ⟨g1, e1, _, _, _, hcells⟩ := hR.cells (by omega)
          cases e1
          have hx0 : ∀ w', Ext w10 w' → w'.cell? ⟨g0, n, none⟩ = some (.string x) := fun w' he => by
            have := (hcells n (.string x) (by rw [List.getElem?_map, put_at s x n n1]; rfl))
            rw [Nat.zero_add] at this
            exact he.cell this
          (conv => whnf)
          refine DrawV.quiet (by kernel_rfl) (by kernel_rfl) ?_; conv => whnf
          (repeat' (first
      | (refine Obl.mk ⟨by omega, by omega⟩ ?_; conv => whnf)
      | (refine Obl.mk ⟨by omega, by omega, ⟨by omega, by omega⟩⟩ ?_; conv => whnf)
      | ((with_reducible refine Tst.tt ?_); conv => whnf)
      | ((with_reducible refine Tst.ff ?_); conv => whnf)
      | ((with_reducible refine Tst.dec (fun _ => ?_) (fun _ => ?_)) <;> first | (exfalso; omega) | (conv => whnf))
      | ((with_reducible refine Tst.not ?_))
      | (refine Wit.conv ⟨by omega, by omega⟩ ?_; conv => whnf)
      | ((with_reducible refine IdxV.nat (by omega) ?_); conv => whnf)
      | ((with_reducible refine SameW.mk rfl ?_); conv => whnf)
      | (refine LoadV.mem (i := 0) (by assumption) rfl rfl ?_; conv => whnf)
      | (refine LoadV.mem (i := 1) (by assumption) rfl rfl ?_; conv => whnf)
      | (refine LoadV.mem (i := 2) (by assumption) rfl rfl ?_; conv => whnf)
      | ((with_reducible refine Tst.beqT ?_))
      | ((with_reducible refine Tst.beqF ?_))
      | (refine Tst.yes rfl ?_; conv => whnf)
      | (refine Tst.no rfl ?_; conv => whnf)))
          · obtain ⟨m, rfl⟩ : ∃ m, n = m + 1 := ⟨n - 1, by omega⟩
            have hm1 : m < s.length := by omega
            have hlow : ∀ w', Ext w10 w' → w'.cell? ⟨g0, m, none⟩ = some (.string s[m]) := fun w' he => by
              have := (hcells m (.string s[m]) (by rw [List.getElem?_map, put_low s x (m + 1) m n1 (by omega), List.getElem?_eq_getElem hm1]; rfl))
              rw [Nat.zero_add] at this
              exact he.cell this
            have hxd := (Ext.refl w10).drew
            refine ElemV.own1 (m + 1) rfl (by omega) ?_
            (conv => whnf)
            (repeat' (first
      | (refine Obl.mk ⟨by omega, by omega⟩ ?_; conv => whnf)
      | (refine Obl.mk ⟨by omega, by omega, ⟨by omega, by omega⟩⟩ ?_; conv => whnf)
      | ((with_reducible refine Tst.tt ?_); conv => whnf)
      | ((with_reducible refine Tst.ff ?_); conv => whnf)
      | ((with_reducible refine Tst.dec (fun _ => ?_) (fun _ => ?_)) <;> first | (exfalso; omega) | (conv => whnf))
      | ((with_reducible refine Tst.not ?_))
      | (refine Wit.conv ⟨by omega, by omega⟩ ?_; conv => whnf)
      | ((with_reducible refine IdxV.nat (by omega) ?_); conv => whnf)
      | ((with_reducible refine SameW.mk rfl ?_); conv => whnf)
      | (refine LoadV.mem (i := 0) (by assumption) rfl rfl ?_; conv => whnf)
      | (refine LoadV.mem (i := 1) (by assumption) rfl rfl ?_; conv => whnf)
      | (refine LoadV.mem (i := 2) (by assumption) rfl rfl ?_; conv => whnf)
      | ((with_reducible refine Tst.beqT ?_))
      | ((with_reducible refine Tst.beqF ?_))
      | (refine Tst.yes rfl ?_; conv => whnf)
      | (refine Tst.no rfl ?_; conv => whnf)))
            refine LoadV.of (hx0 _ hxd) ?_
            (conv => whnf)
            (repeat' (first
      | (refine Obl.mk ⟨by omega, by omega⟩ ?_; conv => whnf)
      | (refine Obl.mk ⟨by omega, by omega, ⟨by omega, by omega⟩⟩ ?_; conv => whnf)
      | ((with_reducible refine Tst.tt ?_); conv => whnf)
      | ((with_reducible refine Tst.ff ?_); conv => whnf)
      | ((with_reducible refine Tst.dec (fun _ => ?_) (fun _ => ?_)) <;> first | (exfalso; omega) | (conv => whnf))
      | ((with_reducible refine Tst.not ?_))
      | (refine Wit.conv ⟨by omega, by omega⟩ ?_; conv => whnf)
      | ((with_reducible refine IdxV.nat (by omega) ?_); conv => whnf)
      | ((with_reducible refine SameW.mk rfl ?_); conv => whnf)
      | (refine LoadV.mem (i := 0) (by assumption) rfl rfl ?_; conv => whnf)
      | (refine LoadV.mem (i := 1) (by assumption) rfl rfl ?_; conv => whnf)
      | (refine LoadV.mem (i := 2) (by assumption) rfl rfl ?_; conv => whnf)
      | ((with_reducible refine Tst.beqT ?_))
      | ((with_reducible refine Tst.beqF ?_))
      | (refine Tst.yes rfl ?_; conv => whnf)
      | (refine Tst.no rfl ?_; conv => whnf)))
            refine ElemV.own1 m (by omega) (by omega) ?_
            (conv => whnf)
            (repeat' (first
      | (refine Obl.mk ⟨by omega, by omega⟩ ?_; conv => whnf)
      | (refine Obl.mk ⟨by omega, by omega, ⟨by omega, by omega⟩⟩ ?_; conv => whnf)
      | ((with_reducible refine Tst.tt ?_); conv => whnf)
      | ((with_reducible refine Tst.ff ?_); conv => whnf)
      | ((with_reducible refine Tst.dec (fun _ => ?_) (fun _ => ?_)) <;> first | (exfalso; omega) | (conv => whnf))
      | ((with_reducible refine Tst.not ?_))
      | (refine Wit.conv ⟨by omega, by omega⟩ ?_; conv => whnf)
      | ((with_reducible refine IdxV.nat (by omega) ?_); conv => whnf)
      | ((with_reducible refine SameW.mk rfl ?_); conv => whnf)
      | (refine LoadV.mem (i := 0) (by assumption) rfl rfl ?_; conv => whnf)
      | (refine LoadV.mem (i := 1) (by assumption) rfl rfl ?_; conv => whnf)
      | (refine LoadV.mem (i := 2) (by assumption) rfl rfl ?_; conv => whnf)
      | ((with_reducible refine Tst.beqT ?_))
      | ((with_reducible refine Tst.beqF ?_))
      | (refine Tst.yes rfl ?_; conv => whnf)
      | (refine Tst.no rfl ?_; conv => whnf)))
            refine LoadV.of (hlow _ hxd) ?_
            (conv => whnf)
            (repeat' (first
      | (refine Obl.mk ⟨by omega, by omega⟩ ?_; conv => whnf)
      | (refine Obl.mk ⟨by omega, by omega, ⟨by omega, by omega⟩⟩ ?_; conv => whnf)
      | ((with_reducible refine Tst.tt ?_); conv => whnf)
      | ((with_reducible refine Tst.ff ?_); conv => whnf)
      | ((with_reducible refine Tst.dec (fun _ => ?_) (fun _ => ?_)) <;> first | (exfalso; omega) | (conv => whnf))
      | ((with_reducible refine Tst.not ?_))
      | (refine Wit.conv ⟨by omega, by omega⟩ ?_; conv => whnf)
      | ((with_reducible refine IdxV.nat (by omega) ?_); conv => whnf)
      | ((with_reducible refine SameW.mk rfl ?_); conv => whnf)
      | (refine LoadV.mem (i := 0) (by assumption) rfl rfl ?_; conv => whnf)
      | (refine LoadV.mem (i := 1) (by assumption) rfl rfl ?_; conv => whnf)
      | (refine LoadV.mem (i := 2) (by assumption) rfl rfl ?_; conv => whnf)
      | ((with_reducible refine Tst.beqT ?_))
      | ((with_reducible refine Tst.beqF ?_))
      | (refine Tst.yes rfl ?_; conv => whnf)
      | (refine Tst.no rfl ?_; conv => whnf)))
            cases hsl : slt x s[m]
            · (conv => whnf)
              (repeat' (first
      | (refine Obl.mk ⟨by omega, by omega⟩ ?_; conv => whnf)
      | (refine Obl.mk ⟨by omega, by omega, ⟨by omega, by omega⟩⟩ ?_; conv => whnf)
      | ((with_reducible refine Tst.tt ?_); conv => whnf)
      | ((with_reducible refine Tst.ff ?_); conv => whnf)
      | ((with_reducible refine Tst.dec (fun _ => ?_) (fun _ => ?_)) <;> first | (exfalso; omega) | (conv => whnf))
      | ((with_reducible refine Tst.not ?_))
      | (refine Wit.conv ⟨by omega, by omega⟩ ?_; conv => whnf)
      | ((with_reducible refine IdxV.nat (by omega) ?_); conv => whnf)
      | ((with_reducible refine SameW.mk rfl ?_); conv => whnf)
      | (refine LoadV.mem (i := 0) (by assumption) rfl rfl ?_; conv => whnf)
      | (refine LoadV.mem (i := 1) (by assumption) rfl rfl ?_; conv => whnf)
      | (refine LoadV.mem (i := 2) (by assumption) rfl rfl ?_; conv => whnf)
      | ((with_reducible refine Tst.beqT ?_))
      | ((with_reducible refine Tst.beqF ?_))
      | (refine Tst.yes rfl ?_; conv => whnf)
      | (refine Tst.no rfl ?_; conv => whnf)))
              exact ⟨(k + 1, s.take (m + 1) ++ x :: s.drop (m + 1), some ⟨g0, 0, none⟩, d), ⟨rfl, by rw [put_len]; rfl, rfl, rfl, rfl, trivial⟩, hdone (fun y hy _ => by rw [Nat.add_sub_cancel, List.getElem?_eq_getElem hm1] at hy; cases hy; exact hsl) _ (hR.call hxd), by simp only; omega⟩
            · (conv => whnf)
              (repeat' (first
      | (refine Obl.mk ⟨by omega, by omega⟩ ?_; conv => whnf)
      | (refine Obl.mk ⟨by omega, by omega, ⟨by omega, by omega⟩⟩ ?_; conv => whnf)
      | ((with_reducible refine Tst.tt ?_); conv => whnf)
      | ((with_reducible refine Tst.ff ?_); conv => whnf)
      | ((with_reducible refine Tst.dec (fun _ => ?_) (fun _ => ?_)) <;> first | (exfalso; omega) | (conv => whnf))
      | ((with_reducible refine Tst.not ?_))
      | (refine Wit.conv ⟨by omega, by omega⟩ ?_; conv => whnf)
      | ((with_reducible refine IdxV.nat (by omega) ?_); conv => whnf)
      | ((with_reducible refine SameW.mk rfl ?_); conv => whnf)
      | (refine LoadV.mem (i := 0) (by assumption) rfl rfl ?_; conv => whnf)
      | (refine LoadV.mem (i := 1) (by assumption) rfl rfl ?_; conv => whnf)
      | (refine LoadV.mem (i := 2) (by assumption) rfl rfl ?_; conv => whnf)
      | ((with_reducible refine Tst.beqT ?_))
      | ((with_reducible refine Tst.beqF ?_))
      | (refine Tst.yes rfl ?_; conv => whnf)
      | (refine Tst.no rfl ?_; conv => whnf)))
              have hR := hR.call hxd
              refine ElemV.own1 (m + 1) rfl (by omega) ?_
              (conv => whnf)
              refine LoadV.of (hx0 _ hxd) ?_
              (conv => whnf)
              (repeat' (first
      | (refine Obl.mk ⟨by omega, by omega⟩ ?_; conv => whnf)
      | (refine Obl.mk ⟨by omega, by omega, ⟨by omega, by omega⟩⟩ ?_; conv => whnf)
      | ((with_reducible refine Tst.tt ?_); conv => whnf)
      | ((with_reducible refine Tst.ff ?_); conv => whnf)
      | ((with_reducible refine Tst.dec (fun _ => ?_) (fun _ => ?_)) <;> first | (exfalso; omega) | (conv => whnf))
      | ((with_reducible refine Tst.not ?_))
      | (refine Wit.conv ⟨by omega, by omega⟩ ?_; conv => whnf)
      | ((with_reducible refine IdxV.nat (by omega) ?_); conv => whnf)
      | ((with_reducible refine SameW.mk rfl ?_); conv => whnf)
      | (refine LoadV.mem (i := 0) (by assumption) rfl rfl ?_; conv => whnf)
      | (refine LoadV.mem (i := 1) (by assumption) rfl rfl ?_; conv => whnf)
      | (refine LoadV.mem (i := 2) (by assumption) rfl rfl ?_; conv => whnf)
      | ((with_reducible refine Tst.beqT ?_))
      | ((with_reducible refine Tst.beqF ?_))
      | (refine Tst.yes rfl ?_; conv => whnf)
      | (refine Tst.no rfl ?_; conv => whnf)))
              refine ElemV.own1 m (by omega) (by omega) ?_
              (conv => whnf)
              refine LoadV.of (hlow _ hxd) ?_
              (conv => whnf)
              refine ElemV.own1 (m + 1) rfl (by omega) ?_
              (conv => whnf)
              refine StoreV.rw hR rfl (by omega) rfl ?_
              intro w11 hR
              (conv => whnf)
              (repeat' (first
      | (refine Obl.mk ⟨by omega, by omega⟩ ?_; conv => whnf)
      | (refine Obl.mk ⟨by omega, by omega, ⟨by omega, by omega⟩⟩ ?_; conv => whnf)
      | ((with_reducible refine Tst.tt ?_); conv => whnf)
      | ((with_reducible refine Tst.ff ?_); conv => whnf)
      | ((with_reducible refine Tst.dec (fun _ => ?_) (fun _ => ?_)) <;> first | (exfalso; omega) | (conv => whnf))
      | ((with_reducible refine Tst.not ?_))
      | (refine Wit.conv ⟨by omega, by omega⟩ ?_; conv => whnf)
      | ((with_reducible refine IdxV.nat (by omega) ?_); conv => whnf)
      | ((with_reducible refine SameW.mk rfl ?_); conv => whnf)
      | (refine LoadV.mem (i := 0) (by assumption) rfl rfl ?_; conv => whnf)
      | (refine LoadV.mem (i := 1) (by assumption) rfl rfl ?_; conv => whnf)
      | (refine LoadV.mem (i := 2) (by assumption) rfl rfl ?_; conv => whnf)
      | ((with_reducible refine Tst.beqT ?_))
      | ((with_reducible refine Tst.beqF ?_))
      | (refine Tst.yes rfl ?_; conv => whnf)
      | (refine Tst.no rfl ?_; conv => whnf)))
              refine ElemV.own1 m (by omega) (by omega) ?_
              (conv => whnf)
              refine StoreV.rw hR rfl (by omega) rfl ?_
              intro w12 hR
              (conv => whnf)
              (repeat' (first
      | (refine Obl.mk ⟨by omega, by omega⟩ ?_; conv => whnf)
      | (refine Obl.mk ⟨by omega, by omega, ⟨by omega, by omega⟩⟩ ?_; conv => whnf)
      | ((with_reducible refine Tst.tt ?_); conv => whnf)
      | ((with_reducible refine Tst.ff ?_); conv => whnf)
      | ((with_reducible refine Tst.dec (fun _ => ?_) (fun _ => ?_)) <;> first | (exfalso; omega) | (conv => whnf))
      | ((with_reducible refine Tst.not ?_))
      | (refine Wit.conv ⟨by omega, by omega⟩ ?_; conv => whnf)
      | ((with_reducible refine IdxV.nat (by omega) ?_); conv => whnf)
      | ((with_reducible refine SameW.mk rfl ?_); conv => whnf)
      | (refine LoadV.mem (i := 0) (by assumption) rfl rfl ?_; conv => whnf)
      | (refine LoadV.mem (i := 1) (by assumption) rfl rfl ?_; conv => whnf)
      | (refine LoadV.mem (i := 2) (by assumption) rfl rfl ?_; conv => whnf)
      | ((with_reducible refine Tst.beqT ?_))
      | ((with_reducible refine Tst.beqF ?_))
      | (refine Tst.yes rfl ?_; conv => whnf)
      | (refine Tst.no rfl ?_; conv => whnf)))
              refine ⟨m, ⟨rfl, rfl, rfl, rfl, rfl, by exact congrArg (Value.int .i64) (by omega), trivial⟩, ⟨by omega, ?_, fun y hy => ?_⟩, by omega⟩
              · have hR' : Rw w w12 (.slice (some ⟨g0, 0, none⟩) (s.length + 1) d) 9 1 (s.length + 1) ((((s.take (m + 1) ++ x :: s.drop (m + 1)).map Value.string).set (m + 1) (.string s[m])).set m (.string x)) [gB r q.gs[i], qB b q] := hR
                rw [strs_set, strs_set, put_step s x m (by omega)] at hR'
                exact hR'
              · rw [List.drop_eq_getElem_cons hm1] at hy
                rcases List.mem_cons.1 hy with rfl | hy
                · exact hsl
                · exact hlt y hy
          · exact ⟨(k + 1, s.take n ++ x :: s.drop n, some ⟨g0, 0, none⟩, d), ⟨rfl, by rw [put_len]; rfl, rfl, rfl, rfl, trivial⟩, hdone (fun y hy h0 => by omega) _ (hR.call (Ext.refl w10).drew), by simp only; omega⟩
      · have hf : fullL [x] = [] := by simp [fullL, hv]
        rw [hf] at hstep
        (conv => whnf)
        (repeat' (first
      | (refine Obl.mk ⟨by omega, by omega⟩ ?_; conv => whnf)
      | (refine Obl.mk ⟨by omega, by omega, ⟨by omega, by omega⟩⟩ ?_; conv => whnf)
      | ((with_reducible refine Tst.tt ?_); conv => whnf)
      | ((with_reducible refine Tst.ff ?_); conv => whnf)
      | ((with_reducible refine Tst.dec (fun _ => ?_) (fun _ => ?_)) <;> first | (exfalso; omega) | (conv => whnf))
      | ((with_reducible refine Tst.not ?_))
      | (refine Wit.conv ⟨by omega, by omega⟩ ?_; conv => whnf)
      | ((with_reducible refine IdxV.nat (by omega) ?_); conv => whnf)
      | ((with_reducible refine SameW.mk rfl ?_); conv => whnf)
      | (refine LoadV.mem (i := 0) (by assumption) rfl rfl ?_; conv => whnf)
      | (refine LoadV.mem (i := 1) (by assumption) rfl rfl ?_; conv => whnf)
      | (refine LoadV.mem (i := 2) (by assumption) rfl rfl ?_; conv => whnf)
      | ((with_reducible refine Tst.beqT ?_))
      | ((with_reducible refine Tst.beqF ?_))
      | (refine Tst.yes rfl ?_; conv => whnf)
      | (refine Tst.no rfl ?_; conv => whnf)))
        exact ⟨(k + 1, s, A, c), ⟨rfl, rfl, rfl, rfl, rfl, trivial⟩, ⟨by simp only; omega, hR, hso, fun y => by rw [hstep]; simp, by simp only; omega⟩, by simp only; omega⟩
    · refine ⟨(i + 1, s, A, c), ⟨rfl, rfl, rfl, trivial⟩, ⟨by simp only; omega, hR.tail, hso, fun y => ?_, by simp only; omega⟩, by simp only; omega⟩
      simp only
      rw [hmem, htk, List.flatMap_append, List.take_of_length_le (show (names4 q.gs[i]).length ≤ k by show 4 ≤ k; omega)]
      simp
  · refine ⟨A, c, l, rfl, ⟨hR.strs.1, hso, fun y => ?_, by omega⟩, hR.mem.ext⟩
    rw [hmem, List.take_of_length_le (by omega)]; rfl
end Go.Proofs.YtajgbepghniciaaGreatDoor
namespace Go.Proofs.YtajgbepghniciaaGreatDoor
open Go.RowKit V
set_option maxRecDepth 100000
def inL (l : List ByteArray) (x : ByteArray) : Bool := l.any fun y => seq y x
theorem inL_iff {l : List ByteArray} {x : ByteArray} : inL l x = true ↔ x ∈ l := by
  simp [inL, seq_iff]
theorem inL_congr {vs us : List ByteArray} (h : ∀ x, x ∈ vs ↔ x ∈ us) (x : ByteArray) : inL vs x = inL us x := by
  rw [Bool.eq_iff_iff, inL_iff, inL_iff, h]
def nameE (vs : List ByteArray) (x : ByteArray) : Nat := if inL vs x then 0 else 210
theorem nameE_congr {vs us : List ByteArray} (h : ∀ x, x ∈ vs ↔ x ∈ us) (x : ByteArray) : nameE vs x = nameE us x := by rw [nameE, nameE, inL_congr h]
theorem nameE_in {vs : List ByteArray} {x : ByteArray} (h : x ∈ vs) : nameE vs x = 0 := by rw [nameE, if_pos (inL_iff.2 h)]
theorem nameE_out {vs : List ByteArray} {x : ByteArray} (h : x ∉ vs) : nameE vs x = 210 := by rw [nameE, if_neg (fun e => h (inL_iff.1 e))]
noncomputable def slotT (vs : List ByteArray) (s : SL) : Nat := if seq s.v ⟨#[]⟩ = false then nameE vs s.v else termE s.t
def TS.at (t : TS) : Nat → SL
  | 0 => t.l
  | _ => t.r
noncomputable def testE (vs : List ByteArray) (t : TS) : Nat := if t.op < 1 ∨ 5 < t.op then 211 else firstE [slotT vs t.l, slotT vs t.r]
theorem slotT_congr {vs us : List ByteArray} (h : ∀ x, x ∈ vs ↔ x ∈ us) (s : SL) : slotT vs s = slotT us s := by
  unfold slotT
  rw [nameE_congr h]
theorem testE_congr {vs us : List ByteArray} (h : ∀ x, x ∈ vs ↔ x ∈ us) (t : TS) : testE vs t = testE us t := by
  unfold testE
  rw [slotT_congr h, slotT_congr h]
theorem tsC_at {t : TS} {w : World} {b off : Nat} (h : CellsAt w b off (tsC t)) (k : Nat) (hk : k < 2) : CellsAt w b (off + (1 + k * 5)) (slC (t.at k)) := by
  intro j v hv
  have hj : j < 5 := (List.getElem?_eq_some_iff.1 hv).1
  have := h (1 + k * 5 + j) v (by
    obtain rfl | rfl : k = 0 ∨ k = 1 := by omega
    all_goals
      obtain rfl | rfl | rfl | rfl | rfl : j = 0 ∨ j = 1 ∨ j = 2 ∨ j = 3 ∨ j = 4 := by omega
      all_goals exact hv)
  rwa [← Nat.add_assoc] at this
def pairC (t : TS) : List Value := slC t.l ++ slC t.r
theorem pairC_at {t : TS} {w : World} {b : Nat} (h : CellsAt w b 0 (pairC t)) (k : Nat) (hk : k < 2) : CellsAt w b (0 + k * 5) (slC (t.at k)) := by
  intro j v hv
  have hj : j < 5 := (List.getElem?_eq_some_iff.1 hv).1
  have := h (k * 5 + j) v (by
    obtain rfl | rfl : k = 0 ∨ k = 1 := by omega
    all_goals
      obtain rfl | rfl | rfl | rfl | rfl : j = 0 ∨ j = 1 ∨ j = 2 ∨ j = 3 ∨ j = 4 := by omega
      all_goals exact hv)
  rwa [← Nat.add_assoc] at this
def tsV (t : TS) : Value := .agg #[.int .i64 t.op, .string t.l.v, .int .i64 t.l.t.kind, .string t.l.t.text, .string t.l.t.type, .string t.l.t.lang, .string t.r.v, .int .i64 t.r.t.kind, .string t.r.t.text, .string t.r.t.type, .string t.r.t.lang]
theorem pairC_one (t : TS) : ∀ v ∈ pairC t, v.oneCell' = true := by
  intro v hv
  simp only [pairC, slC, List.cons_append, List.nil_append, List.mem_cons, List.not_mem_nil, or_false] at hv
  rcases hv with rfl | rfl | rfl | rfl | rfl | rfl | rfl | rfl | rfl | rfl <;> rfl
set_option maxHeartbeats 400000 in
theorem refTest_any (t : TS) (hl : SlotOk t.l) (hr : SlotOk t.r) (l : List ByteArray) (A : Option Addr) (c : Nat) (w : World) (hS : SlAt V.encS 1 w A l) (hn : l.length ≤ 4611686018427387904) :
    Gv Tryz.prog 50 [tsV t, .slice A l.length c] w fun v w' => v = .int .i64 (testE l t) ∧ Ext w w' := by
  have hok : ∀ k, SlotOk (t.at k) := fun k => by cases k <;> assumption
  refine gv (by kernel_rfl) Tryz.func50 rfl Tryz.ntmps50 rfl ?_; conv => whnf
  refine NewV.mem (Mem.nil w) ?_
  intro b w1 hm
  have hc : CellsAt w1 b 0 (tsC t) := CellsAt.mem hm (List.mem_cons_self ..)
  (conv => whnf)
  refine LoadV.mem hm (i := 0) rfl rfl ?_
  (conv => whnf)
  (repeat' (first
      | (refine Obl.mk ⟨by omega, by omega⟩ ?_; conv => whnf)
      | (refine Obl.mk ⟨by omega, by omega, ⟨by omega, by omega⟩⟩ ?_; conv => whnf)
      | ((with_reducible refine Tst.tt ?_); conv => whnf)
      | ((with_reducible refine Tst.ff ?_); conv => whnf)
      | ((with_reducible refine Tst.dec (fun _ => ?_) (fun _ => ?_)) <;> first | (exfalso; omega) | (conv => whnf))
      | ((with_reducible refine Tst.not ?_))
      | (refine Wit.conv ⟨by omega, by omega⟩ ?_; conv => whnf)
      | ((with_reducible refine IdxV.nat (by omega) ?_); conv => whnf)
      | ((with_reducible refine SameW.mk rfl ?_); conv => whnf)
      | (refine LoadV.mem (i := 0) (by assumption) rfl rfl ?_; conv => whnf)
      | (refine LoadV.mem (i := 1) (by assumption) rfl rfl ?_; conv => whnf)
      | (refine LoadV.mem (i := 2) (by assumption) rfl rfl ?_; conv => whnf)
      | ((with_reducible refine Tst.beqT ?_))
      | ((with_reducible refine Tst.beqF ?_))
      | (refine Tst.yes rfl ?_; conv => whnf)
      | (refine Tst.no rfl ?_; conv => whnf)))
  · exact ⟨by rw [testE, if_pos (by omega)]; rfl, hm.ext⟩
  · exact ⟨by rw [testE, if_pos (by omega)]; rfl, hm.ext⟩
  · skip
    · have hT : testE l t = firstE [slotT l t.l, slotT l t.r] := by rw [testE, if_neg (by omega)]
      refine LoadA.cells (tsC_at hc 0 (by omega)) rfl ?_
      (conv => whnf)
      refine LoadA.cells (tsC_at hc 1 (by omega)) rfl ?_
      (conv => whnf)
      refine NewV.mem hm ?_
      intro r w2 hm
      (conv => whnf)
      refine StoreA.all (vs := pairC t) hm (i := 0) rfl rfl (pairC_one t) ?_
      intro w3 hm
      have hgc : ∀ w', Ext w3 w' → CellsAt w' r 0 (pairC t) := fun w' he => CellsAt.mem (hm.call he) (List.mem_cons_self ..)
      (conv => whnf)
      refine loopV (fun k : Nat => [(1, .slice A l.length c), (2, .pointer (some ⟨b, 0, none⟩)), (4, .int .i64 0), (5, .pointer (some ⟨r, 0, none⟩)), (6, .int .i64 k)])
        (fun k w' => k ≤ 2 ∧ (∀ j, j < k → slotT l (t.at j) = 0) ∧ Ext w3 w') (fun k => 2 - k) 0 ⟨rfl, rfl, rfl, rfl, rfl, trivial⟩ ⟨by omega, fun j h0 => by omega, Ext.refl _⟩ ?_
      rintro k w5 ρ' ⟨h1, h2, h3⟩
      (conv => whnf)
      (repeat' (first
      | (refine Obl.mk ⟨by omega, by omega⟩ ?_; conv => whnf)
      | (refine Obl.mk ⟨by omega, by omega, ⟨by omega, by omega⟩⟩ ?_; conv => whnf)
      | ((with_reducible refine Tst.tt ?_); conv => whnf)
      | ((with_reducible refine Tst.ff ?_); conv => whnf)
      | ((with_reducible refine Tst.dec (fun _ => ?_) (fun _ => ?_)) <;> first | (exfalso; omega) | (conv => whnf))
      | ((with_reducible refine Tst.not ?_))
      | (refine Wit.conv ⟨by omega, by omega⟩ ?_; conv => whnf)
      | ((with_reducible refine IdxV.nat (by omega) ?_); conv => whnf)
      | ((with_reducible refine SameW.mk rfl ?_); conv => whnf)
      | (refine LoadV.mem (i := 0) (by assumption) rfl rfl ?_; conv => whnf)
      | (refine LoadV.mem (i := 1) (by assumption) rfl rfl ?_; conv => whnf)
      | (refine LoadV.mem (i := 2) (by assumption) rfl rfl ?_; conv => whnf)
      | ((with_reducible refine Tst.beqT ?_))
      | ((with_reducible refine Tst.beqF ?_))
      | (refine Tst.yes rfl ?_; conv => whnf)
      | (refine Tst.no rfl ?_; conv => whnf)))
      · have hk : k < 2 := by omega
        have hcl := pairC_at (hgc w5 h3) k hk
        have hs := hok k
        have hbad : slotT l (t.at k) ≠ 0 → testE l t = slotT l (t.at k) := fun hne => by
          rw [hT]
          obtain rfl | rfl : k = 0 ∨ k = 1 := by omega
          · rw [firstE, if_pos (by exact hne)]; rfl
          · rw [firstE, if_neg (by rw [show slotT l t.l = 0 from h2 0 (by omega)]; simp), firstE, if_pos (by exact hne)]; rfl
        have hgood : slotT l (t.at k) = 0 → ∀ j, j < k + 1 → slotT l (t.at j) = 0 := fun he j hj => by
          by_cases e : j = k
          · subst e; exact he
          · exact h2 j (by omega)
        refine LoadV.cell0 hcl ?_
        (conv => whnf)
        cases hv : seq (t.at k).v ⟨#[]⟩
        · have hE : slotT l (t.at k) = nameE l (t.at k).v := by rw [slotT, if_pos hv]
          (conv => whnf)
          (repeat' (first
      | (refine Obl.mk ⟨by omega, by omega⟩ ?_; conv => whnf)
      | (refine Obl.mk ⟨by omega, by omega, ⟨by omega, by omega⟩⟩ ?_; conv => whnf)
      | ((with_reducible refine Tst.tt ?_); conv => whnf)
      | ((with_reducible refine Tst.ff ?_); conv => whnf)
      | ((with_reducible refine Tst.dec (fun _ => ?_) (fun _ => ?_)) <;> first | (exfalso; omega) | (conv => whnf))
      | ((with_reducible refine Tst.not ?_))
      | (refine Wit.conv ⟨by omega, by omega⟩ ?_; conv => whnf)
      | ((with_reducible refine IdxV.nat (by omega) ?_); conv => whnf)
      | ((with_reducible refine SameW.mk rfl ?_); conv => whnf)
      | (refine LoadV.mem (i := 0) (by assumption) rfl rfl ?_; conv => whnf)
      | (refine LoadV.mem (i := 1) (by assumption) rfl rfl ?_; conv => whnf)
      | (refine LoadV.mem (i := 2) (by assumption) rfl rfl ?_; conv => whnf)
      | ((with_reducible refine Tst.beqT ?_))
      | ((with_reducible refine Tst.beqF ?_))
      | (refine Tst.yes rfl ?_; conv => whnf)
      | (refine Tst.no rfl ?_; conv => whnf)))
          refine LoadV.cell0 hcl ?_
          (conv => whnf)
          refine CallV.of (number_any l A c (t.at k).v w5 (hS.ext (hm.ext.trans h3)) hn) ?_
          rintro v w6 ⟨⟨j, rfl, j0, j1, hj⟩, rfl⟩
          (conv => whnf)
          (repeat' (first
      | (refine Obl.mk ⟨by omega, by omega⟩ ?_; conv => whnf)
      | (refine Obl.mk ⟨by omega, by omega, ⟨by omega, by omega⟩⟩ ?_; conv => whnf)
      | ((with_reducible refine Tst.tt ?_); conv => whnf)
      | ((with_reducible refine Tst.ff ?_); conv => whnf)
      | ((with_reducible refine Tst.dec (fun _ => ?_) (fun _ => ?_)) <;> first | (exfalso; omega) | (conv => whnf))
      | ((with_reducible refine Tst.not ?_))
      | (refine Wit.conv ⟨by omega, by omega⟩ ?_; conv => whnf)
      | ((with_reducible refine IdxV.nat (by omega) ?_); conv => whnf)
      | ((with_reducible refine SameW.mk rfl ?_); conv => whnf)
      | (refine LoadV.mem (i := 0) (by assumption) rfl rfl ?_; conv => whnf)
      | (refine LoadV.mem (i := 1) (by assumption) rfl rfl ?_; conv => whnf)
      | (refine LoadV.mem (i := 2) (by assumption) rfl rfl ?_; conv => whnf)
      | ((with_reducible refine Tst.beqT ?_))
      | ((with_reducible refine Tst.beqF ?_))
      | (refine Tst.yes rfl ?_; conv => whnf)
      | (refine Tst.no rfl ?_; conv => whnf)))
          · have hx : (t.at k).v ∉ l := fun h => by have := hj.1 h; omega
            rw [nameE_out hx] at hE
            exact ⟨by rw [hbad (by omega), hE]; rfl, hm.ext.trans h3⟩
          · have hx : (t.at k).v ∈ l := hj.2 (by omega)
            rw [nameE_in hx] at hE
            exact ⟨k + 1, ⟨rfl, rfl, rfl, rfl, rfl, trivial⟩, ⟨by omega, hgood hE, h3⟩, by omega⟩
        · have hE : slotT l (t.at k) = termE (t.at k).t := by rw [slotT, if_neg (by rw [hv]; simp)]
          (conv => whnf)
          (repeat' (first
      | (refine Obl.mk ⟨by omega, by omega⟩ ?_; conv => whnf)
      | (refine Obl.mk ⟨by omega, by omega, ⟨by omega, by omega⟩⟩ ?_; conv => whnf)
      | ((with_reducible refine Tst.tt ?_); conv => whnf)
      | ((with_reducible refine Tst.ff ?_); conv => whnf)
      | ((with_reducible refine Tst.dec (fun _ => ?_) (fun _ => ?_)) <;> first | (exfalso; omega) | (conv => whnf))
      | ((with_reducible refine Tst.not ?_))
      | (refine Wit.conv ⟨by omega, by omega⟩ ?_; conv => whnf)
      | ((with_reducible refine IdxV.nat (by omega) ?_); conv => whnf)
      | ((with_reducible refine SameW.mk rfl ?_); conv => whnf)
      | (refine LoadV.mem (i := 0) (by assumption) rfl rfl ?_; conv => whnf)
      | (refine LoadV.mem (i := 1) (by assumption) rfl rfl ?_; conv => whnf)
      | (refine LoadV.mem (i := 2) (by assumption) rfl rfl ?_; conv => whnf)
      | ((with_reducible refine Tst.beqT ?_))
      | ((with_reducible refine Tst.beqF ?_))
      | (refine Tst.yes rfl ?_; conv => whnf)
      | (refine Tst.no rfl ?_; conv => whnf)))
          refine LoadA.cells (CellsAt.tail hcl) rfl ?_
          (conv => whnf)
          refine CallV.of (refTermCheck_any (t.at k).t hs.t w5) ?_
          rintro v w6 ⟨rfl, he6⟩
          rw [← hE]
          (conv => whnf)
          (repeat' (first
      | (refine Obl.mk ⟨by omega, by omega⟩ ?_; conv => whnf)
      | (refine Obl.mk ⟨by omega, by omega, ⟨by omega, by omega⟩⟩ ?_; conv => whnf)
      | ((with_reducible refine Tst.tt ?_); conv => whnf)
      | ((with_reducible refine Tst.ff ?_); conv => whnf)
      | ((with_reducible refine Tst.dec (fun _ => ?_) (fun _ => ?_)) <;> first | (exfalso; omega) | (conv => whnf))
      | ((with_reducible refine Tst.not ?_))
      | (refine Wit.conv ⟨by omega, by omega⟩ ?_; conv => whnf)
      | ((with_reducible refine IdxV.nat (by omega) ?_); conv => whnf)
      | ((with_reducible refine SameW.mk rfl ?_); conv => whnf)
      | (refine LoadV.mem (i := 0) (by assumption) rfl rfl ?_; conv => whnf)
      | (refine LoadV.mem (i := 1) (by assumption) rfl rfl ?_; conv => whnf)
      | (refine LoadV.mem (i := 2) (by assumption) rfl rfl ?_; conv => whnf)
      | ((with_reducible refine Tst.beqT ?_))
      | ((with_reducible refine Tst.beqF ?_))
      | (refine Tst.yes rfl ?_; conv => whnf)
      | (refine Tst.no rfl ?_; conv => whnf)))
          · exact ⟨by rw [hbad (by omega)], hm.ext.trans (h3.trans he6)⟩
          · exact ⟨k + 1, ⟨rfl, rfl, rfl, rfl, rfl, trivial⟩, ⟨by omega, hgood (by omega), h3.trans he6⟩, by omega⟩
      · refine ⟨?_, hm.ext.trans h3⟩
        have e0 : slotT l t.l = 0 := h2 0 (by omega)
        have e1 : slotT l t.r = 0 := h2 1 (by omega)
        rw [hT, e0, e1]; rfl
end Go.Proofs.YtajgbepghniciaaGreatDoor
namespace Go.Proofs.YtajgbepghniciaaGreatDoor
open Go.RowKit V
set_option maxRecDepth 100000
def orE (a b : Nat) : Nat := if a ≠ 0 then a else b
theorem orE_z {a b : Nat} (h : a = 0) : orE a b = b := by rw [orE, if_neg (by omega)]
theorem orE_n {a b : Nat} (h : a ≠ 0) : orE a b = a := by rw [orE, if_pos h]
noncomputable def checkE (q : QL) : Nat :=
  if 16 < q.gs.length ∨ 32 < q.ts.length ∨ 32 < q.ss.length ∨ 32 < q.os.length then 2 else
    orE (firstE (q.gs.map goalE)) (orE (firstE (q.ts.map (testE (varsL q.gs)))) (orE (firstE (q.ss.map (nameE (varsL q.gs)))) (firstE (q.os.map fun o => nameE (varsL q.gs) o.v))))
theorem first_bad {α : Type} (f : α → Nat) (l : List α) (i : Nat) (hi : i < l.length) (h : ∀ j (hj : j < l.length), j < i → f l[j] = 0) (hne : f l[i] ≠ 0) : firstE (l.map f) = f l[i] := by
  rw [firstE_at (k := i) (by simpa using hi) (fun j hj hji => by rw [List.getElem_map]; exact h j (by simpa using hj) hji) (by rw [List.getElem_map]; exact hne), List.getElem_map]
theorem first_good {α : Type} (f : α → Nat) (l : List α) (h : ∀ j (hj : j < l.length), f l[j] = 0) : firstE (l.map f) = 0 :=
  firstE_zero fun j hj => by rw [List.getElem_map]; exact h j (by simpa using hj)
theorem first_next {α : Type} (f : α → Nat) (l : List α) (i : Nat) (hi : i < l.length) (h : ∀ j (hj : j < l.length), j < i → f l[j] = 0) (he : f l[i] = 0) : ∀ j (hj : j < l.length), j < i + 1 → f l[j] = 0 := fun j hj hji => by
  by_cases e : j = i
  · subst e; exact he
  · exact h j hj (by omega)
set_option maxHeartbeats 1000000 in
theorem refQueryCheck_any (q : QL) (w : World) (hq : QAt w q) (ho : QOk q) :
    Gv Tryz.prog 17 [queryV q] w fun v w' => v = .int .i64 (checkE q) ∧ Ext w w' := by
  have hV := fun w' (he : Ext w w') => refVars_any q w' (hq.ext he) ho
  have hgl := ho.gl
  refine gv (by kernel_rfl) Tryz.func17 rfl Tryz.ntmps17 rfl ?_; conv => whnf
  refine NewV.mem (Mem.nil w) ?_
  intro b w1 hm
  have hx1 := hm.ext
  have hm' : Mem w w1 [qB b q] := hm
  clear hm
  have hcel : ∀ w', Ext w1 w' → Mem w w' [qB b q] := fun w' he => hm'.call he
  have hm := hcel w1 (Ext.refl _)
  (conv => whnf)
  (repeat' (first
      | (refine Obl.mk ⟨by omega, by omega⟩ ?_; conv => whnf)
      | (refine Obl.mk ⟨by omega, by omega, ⟨by omega, by omega⟩⟩ ?_; conv => whnf)
      | ((with_reducible refine Tst.tt ?_); conv => whnf)
      | ((with_reducible refine Tst.ff ?_); conv => whnf)
      | ((with_reducible refine Tst.dec (fun _ => ?_) (fun _ => ?_)) <;> first | (exfalso; omega) | (conv => whnf))
      | ((with_reducible refine Tst.not ?_))
      | (refine Wit.conv ⟨by omega, by omega⟩ ?_; conv => whnf)
      | ((with_reducible refine IdxV.nat (by omega) ?_); conv => whnf)
      | ((with_reducible refine SameW.mk rfl ?_); conv => whnf)
      | (refine LoadV.mem (i := 0) (by assumption) rfl rfl ?_; conv => whnf)
      | (refine LoadV.mem (i := 1) (by assumption) rfl rfl ?_; conv => whnf)
      | (refine LoadV.mem (i := 2) (by assumption) rfl rfl ?_; conv => whnf)
      | ((with_reducible refine Tst.beqT ?_))
      | ((with_reducible refine Tst.beqF ?_))
      | (refine Tst.yes rfl ?_; conv => whnf)
      | (refine Tst.no rfl ?_; conv => whnf)))
  · exact ⟨by rw [checkE, if_pos (.inl (by omega))]; rfl, hx1⟩
  · exact ⟨by rw [checkE, if_pos (.inr (.inl (by omega)))]; rfl, hx1⟩
  · exact ⟨by rw [checkE, if_pos (.inr (.inr (.inl (by omega))))]; rfl, hx1⟩
  · exact ⟨by rw [checkE, if_pos (.inr (.inr (.inr (by omega))))]; rfl, hx1⟩
  have hC : checkE q = orE (firstE (q.gs.map goalE)) (orE (firstE (q.ts.map (testE (varsL q.gs)))) (orE (firstE (q.ss.map (nameE (varsL q.gs)))) (firstE (q.os.map fun o => nameE (varsL q.gs) o.v)))) := by
    rw [checkE, if_neg (by omega)]
  refine loopV (fun i : Nat => [(1, .pointer (some ⟨b, 0, none⟩)), (2, .int .i64 0), (3, .int .i64 i)])
    (fun i w' => i ≤ q.gs.length ∧ (∀ j (hj : j < q.gs.length), j < i → goalE q.gs[j] = 0) ∧ Ext w1 w') (fun i => q.gs.length - i) 0 ⟨rfl, rfl, rfl, trivial⟩ ⟨by omega, fun j hj h0 => by omega, Ext.refl _⟩ ?_
  rintro i w2 ρ' ⟨i1, i2, he2⟩
  have hm2 := hcel w2 he2
  (conv => whnf)
  refine LoadV.mem hm2 (i := 0) rfl rfl ?_
  (conv => whnf)
  (repeat' (first
      | (refine Obl.mk ⟨by omega, by omega⟩ ?_; conv => whnf)
      | (refine Obl.mk ⟨by omega, by omega, ⟨by omega, by omega⟩⟩ ?_; conv => whnf)
      | ((with_reducible refine Tst.tt ?_); conv => whnf)
      | ((with_reducible refine Tst.ff ?_); conv => whnf)
      | ((with_reducible refine Tst.dec (fun _ => ?_) (fun _ => ?_)) <;> first | (exfalso; omega) | (conv => whnf))
      | ((with_reducible refine Tst.not ?_))
      | (refine Wit.conv ⟨by omega, by omega⟩ ?_; conv => whnf)
      | ((with_reducible refine IdxV.nat (by omega) ?_); conv => whnf)
      | ((with_reducible refine SameW.mk rfl ?_); conv => whnf)
      | (refine LoadV.mem (i := 0) (by assumption) rfl rfl ?_; conv => whnf)
      | (refine LoadV.mem (i := 1) (by assumption) rfl rfl ?_; conv => whnf)
      | (refine LoadV.mem (i := 2) (by assumption) rfl rfl ?_; conv => whnf)
      | ((with_reducible refine Tst.beqT ?_))
      | ((with_reducible refine Tst.beqF ?_))
      | (refine Tst.yes rfl ?_; conv => whnf)
      | (refine Tst.no rfl ?_; conv => whnf)))
  · have hi : i < q.gs.length := by omega
    refine ElemV.sl (hq.g.ext hm2.ext) rfl i rfl hi ?_
    intro gb goff hc
    (conv => whnf)
    refine LoadA.cells hc rfl ?_
    (conv => whnf)
    refine CallV.of (refGoal_any q.gs[i] (ho.g _ (List.getElem_mem hi)) w2) ?_
    rintro v w3 ⟨rfl, he3⟩
    (conv => whnf)
    (repeat' (first
      | (refine Obl.mk ⟨by omega, by omega⟩ ?_; conv => whnf)
      | (refine Obl.mk ⟨by omega, by omega, ⟨by omega, by omega⟩⟩ ?_; conv => whnf)
      | ((with_reducible refine Tst.tt ?_); conv => whnf)
      | ((with_reducible refine Tst.ff ?_); conv => whnf)
      | ((with_reducible refine Tst.dec (fun _ => ?_) (fun _ => ?_)) <;> first | (exfalso; omega) | (conv => whnf))
      | ((with_reducible refine Tst.not ?_))
      | (refine Wit.conv ⟨by omega, by omega⟩ ?_; conv => whnf)
      | ((with_reducible refine IdxV.nat (by omega) ?_); conv => whnf)
      | ((with_reducible refine SameW.mk rfl ?_); conv => whnf)
      | (refine LoadV.mem (i := 0) (by assumption) rfl rfl ?_; conv => whnf)
      | (refine LoadV.mem (i := 1) (by assumption) rfl rfl ?_; conv => whnf)
      | (refine LoadV.mem (i := 2) (by assumption) rfl rfl ?_; conv => whnf)
      | ((with_reducible refine Tst.beqT ?_))
      | ((with_reducible refine Tst.beqF ?_))
      | (refine Tst.yes rfl ?_; conv => whnf)
      | (refine Tst.no rfl ?_; conv => whnf)))
    · exact ⟨by rw [hC, first_bad goalE q.gs i hi i2 (by omega), orE_n (by omega)], hx1.trans (he2.trans he3)⟩
    · exact ⟨i + 1, ⟨rfl, rfl, rfl, trivial⟩, ⟨by omega, first_next goalE q.gs i hi i2 (by omega), he2.trans he3⟩, by omega⟩
  rw [first_good goalE q.gs (fun j hj => i2 j hj (by omega)), orE_z rfl] at hC
  clear i1 i2
  refine LoadA.mem hm2 (i := 0) rfl rfl ?_
  (conv => whnf)
  refine CallV.of (hV w2 (hx1.trans he2)) ?_
  rintro v w3 ⟨A, c, l, rfl, hvs, he3⟩
  have hm3 := hm2.call he3
  have hC : checkE q = orE (firstE (q.ts.map (testE l))) (orE (firstE (q.ss.map (nameE l))) (firstE (q.os.map fun o => nameE l o.v))) := by
    rw [hC]
    have e1 : testE (varsL q.gs) = testE l := funext fun t => (testE_congr hvs.mem t).symm
    have e2 : nameE (varsL q.gs) = nameE l := funext fun t => (nameE_congr hvs.mem t).symm
    rw [e1, e2]
  have hln := hvs.len
  (conv => whnf)
  refine loopV (fun i : Nat => [(1, .pointer (some ⟨b, 0, none⟩)), (2, .int .i64 0), (5, .slice A l.length c), (6, .int .i64 i)])
    (fun i w' => i ≤ q.ts.length ∧ (∀ j (hj : j < q.ts.length), j < i → testE l q.ts[j] = 0) ∧ Ext w3 w') (fun i => q.ts.length - i) 0 ⟨rfl, rfl, rfl, rfl, trivial⟩ ⟨by omega, fun j hj h0 => by omega, Ext.refl _⟩ ?_
  rintro i w4 ρ' ⟨i1, i2, he4⟩
  have hm4 := hm3.call he4
  (conv => whnf)
  refine LoadV.mem hm4 (i := 0) rfl rfl ?_
  (conv => whnf)
  (repeat' (first
      | (refine Obl.mk ⟨by omega, by omega⟩ ?_; conv => whnf)
      | (refine Obl.mk ⟨by omega, by omega, ⟨by omega, by omega⟩⟩ ?_; conv => whnf)
      | ((with_reducible refine Tst.tt ?_); conv => whnf)
      | ((with_reducible refine Tst.ff ?_); conv => whnf)
      | ((with_reducible refine Tst.dec (fun _ => ?_) (fun _ => ?_)) <;> first | (exfalso; omega) | (conv => whnf))
      | ((with_reducible refine Tst.not ?_))
      | (refine Wit.conv ⟨by omega, by omega⟩ ?_; conv => whnf)
      | ((with_reducible refine IdxV.nat (by omega) ?_); conv => whnf)
      | ((with_reducible refine SameW.mk rfl ?_); conv => whnf)
      | (refine LoadV.mem (i := 0) (by assumption) rfl rfl ?_; conv => whnf)
      | (refine LoadV.mem (i := 1) (by assumption) rfl rfl ?_; conv => whnf)
      | (refine LoadV.mem (i := 2) (by assumption) rfl rfl ?_; conv => whnf)
      | ((with_reducible refine Tst.beqT ?_))
      | ((with_reducible refine Tst.beqF ?_))
      | (refine Tst.yes rfl ?_; conv => whnf)
      | (refine Tst.no rfl ?_; conv => whnf)))
  · have hi : i < q.ts.length := by omega
    refine ElemV.sl (hq.t.ext hm4.ext) rfl i rfl hi ?_
    intro gb goff hc
    (conv => whnf)
    refine LoadA.cells hc rfl ?_
    (conv => whnf)
    obtain ⟨o1, o2, o3⟩ := ho.t _ (List.getElem_mem hi)
    refine CallV.of (refTest_any q.ts[i] o1 o2 l A c w4 (hvs.sl.ext he4) (by omega)) ?_
    rintro v w5 ⟨rfl, he5⟩
    (conv => whnf)
    (repeat' (first
      | (refine Obl.mk ⟨by omega, by omega⟩ ?_; conv => whnf)
      | (refine Obl.mk ⟨by omega, by omega, ⟨by omega, by omega⟩⟩ ?_; conv => whnf)
      | ((with_reducible refine Tst.tt ?_); conv => whnf)
      | ((with_reducible refine Tst.ff ?_); conv => whnf)
      | ((with_reducible refine Tst.dec (fun _ => ?_) (fun _ => ?_)) <;> first | (exfalso; omega) | (conv => whnf))
      | ((with_reducible refine Tst.not ?_))
      | (refine Wit.conv ⟨by omega, by omega⟩ ?_; conv => whnf)
      | ((with_reducible refine IdxV.nat (by omega) ?_); conv => whnf)
      | ((with_reducible refine SameW.mk rfl ?_); conv => whnf)
      | (refine LoadV.mem (i := 0) (by assumption) rfl rfl ?_; conv => whnf)
      | (refine LoadV.mem (i := 1) (by assumption) rfl rfl ?_; conv => whnf)
      | (refine LoadV.mem (i := 2) (by assumption) rfl rfl ?_; conv => whnf)
      | ((with_reducible refine Tst.beqT ?_))
      | ((with_reducible refine Tst.beqF ?_))
      | (refine Tst.yes rfl ?_; conv => whnf)
      | (refine Tst.no rfl ?_; conv => whnf)))
    · exact ⟨by rw [hC, first_bad (testE l) q.ts i hi i2 (by omega), orE_n (by omega)], hm4.ext.trans he5⟩
    · exact ⟨i + 1, ⟨rfl, rfl, rfl, rfl, trivial⟩, ⟨by omega, first_next (testE l) q.ts i hi i2 (by omega), he4.trans he5⟩, by omega⟩
  rw [first_good (testE l) q.ts (fun j hj => i2 j hj (by omega)), orE_z rfl] at hC
  clear i1 i2
  refine loopV (fun i : Nat => [(1, .pointer (some ⟨b, 0, none⟩)), (2, .int .i64 0), (5, .slice A l.length c), (8, .int .i64 i)])
    (fun i w' => i ≤ q.ss.length ∧ (∀ j (hj : j < q.ss.length), j < i → nameE l q.ss[j] = 0) ∧ w' = w4) (fun i => q.ss.length - i) 0 ⟨rfl, rfl, rfl, rfl, trivial⟩ ⟨by omega, fun j hj h0 => by omega, rfl⟩ ?_
  rintro i w5 ρ' ⟨i1, i2, rfl⟩
  (conv => whnf)
  refine LoadV.mem hm4 (i := 0) rfl rfl ?_
  (conv => whnf)
  (repeat' (first
      | (refine Obl.mk ⟨by omega, by omega⟩ ?_; conv => whnf)
      | (refine Obl.mk ⟨by omega, by omega, ⟨by omega, by omega⟩⟩ ?_; conv => whnf)
      | ((with_reducible refine Tst.tt ?_); conv => whnf)
      | ((with_reducible refine Tst.ff ?_); conv => whnf)
      | ((with_reducible refine Tst.dec (fun _ => ?_) (fun _ => ?_)) <;> first | (exfalso; omega) | (conv => whnf))
      | ((with_reducible refine Tst.not ?_))
      | (refine Wit.conv ⟨by omega, by omega⟩ ?_; conv => whnf)
      | ((with_reducible refine IdxV.nat (by omega) ?_); conv => whnf)
      | ((with_reducible refine SameW.mk rfl ?_); conv => whnf)
      | (refine LoadV.mem (i := 0) (by assumption) rfl rfl ?_; conv => whnf)
      | (refine LoadV.mem (i := 1) (by assumption) rfl rfl ?_; conv => whnf)
      | (refine LoadV.mem (i := 2) (by assumption) rfl rfl ?_; conv => whnf)
      | ((with_reducible refine Tst.beqT ?_))
      | ((with_reducible refine Tst.beqF ?_))
      | (refine Tst.yes rfl ?_; conv => whnf)
      | (refine Tst.no rfl ?_; conv => whnf)))
  · have hi : i < q.ss.length := by omega
    refine ElemV.sl (hq.s.ext hm4.ext) rfl i rfl hi ?_
    intro gb goff hc
    (conv => whnf)
    refine LoadV.cell0 hc ?_
    (conv => whnf)
    refine CallV.of (number_any l A c q.ss[i] w5 (hvs.sl.ext he4) (by omega)) ?_
    rintro v w5 ⟨⟨j, rfl, j0, j1, hj⟩, rfl⟩
    (conv => whnf)
    (repeat' (first
      | (refine Obl.mk ⟨by omega, by omega⟩ ?_; conv => whnf)
      | (refine Obl.mk ⟨by omega, by omega, ⟨by omega, by omega⟩⟩ ?_; conv => whnf)
      | ((with_reducible refine Tst.tt ?_); conv => whnf)
      | ((with_reducible refine Tst.ff ?_); conv => whnf)
      | ((with_reducible refine Tst.dec (fun _ => ?_) (fun _ => ?_)) <;> first | (exfalso; omega) | (conv => whnf))
      | ((with_reducible refine Tst.not ?_))
      | (refine Wit.conv ⟨by omega, by omega⟩ ?_; conv => whnf)
      | ((with_reducible refine IdxV.nat (by omega) ?_); conv => whnf)
      | ((with_reducible refine SameW.mk rfl ?_); conv => whnf)
      | (refine LoadV.mem (i := 0) (by assumption) rfl rfl ?_; conv => whnf)
      | (refine LoadV.mem (i := 1) (by assumption) rfl rfl ?_; conv => whnf)
      | (refine LoadV.mem (i := 2) (by assumption) rfl rfl ?_; conv => whnf)
      | ((with_reducible refine Tst.beqT ?_))
      | ((with_reducible refine Tst.beqF ?_))
      | (refine Tst.yes rfl ?_; conv => whnf)
      | (refine Tst.no rfl ?_; conv => whnf)))
    · have hE := nameE_out (vs := l) (x := q.ss[i]) (fun h => by have := hj.1 h; omega)
      exact ⟨by rw [hC, first_bad (nameE l) q.ss i hi i2 (by omega), orE_n (by omega), hE]; rfl, hm4.ext⟩
    · exact ⟨i + 1, ⟨rfl, rfl, rfl, rfl, trivial⟩, ⟨by omega, first_next (nameE l) q.ss i hi i2 (nameE_in (hj.2 (by omega))), rfl⟩, by omega⟩
  rw [first_good (nameE l) q.ss (fun j hj => i2 j hj (by omega)), orE_z rfl] at hC
  clear i1 i2
  refine loopV (fun i : Nat => [(1, .pointer (some ⟨b, 0, none⟩)), (2, .int .i64 0), (5, .slice A l.length c), (9, .int .i64 i)])
    (fun i w' => i ≤ q.os.length ∧ (∀ j (hj : j < q.os.length), j < i → (fun o : OL => nameE l o.v) q.os[j] = 0) ∧ w' = w5) (fun i => q.os.length - i) 0 ⟨rfl, rfl, rfl, rfl, trivial⟩ ⟨by omega, fun j hj h0 => by omega, rfl⟩ ?_
  rintro i w6 ρ' ⟨i1, i2, rfl⟩
  (conv => whnf)
  refine LoadV.mem hm4 (i := 0) rfl rfl ?_
  (conv => whnf)
  (repeat' (first
      | (refine Obl.mk ⟨by omega, by omega⟩ ?_; conv => whnf)
      | (refine Obl.mk ⟨by omega, by omega, ⟨by omega, by omega⟩⟩ ?_; conv => whnf)
      | ((with_reducible refine Tst.tt ?_); conv => whnf)
      | ((with_reducible refine Tst.ff ?_); conv => whnf)
      | ((with_reducible refine Tst.dec (fun _ => ?_) (fun _ => ?_)) <;> first | (exfalso; omega) | (conv => whnf))
      | ((with_reducible refine Tst.not ?_))
      | (refine Wit.conv ⟨by omega, by omega⟩ ?_; conv => whnf)
      | ((with_reducible refine IdxV.nat (by omega) ?_); conv => whnf)
      | ((with_reducible refine SameW.mk rfl ?_); conv => whnf)
      | (refine LoadV.mem (i := 0) (by assumption) rfl rfl ?_; conv => whnf)
      | (refine LoadV.mem (i := 1) (by assumption) rfl rfl ?_; conv => whnf)
      | (refine LoadV.mem (i := 2) (by assumption) rfl rfl ?_; conv => whnf)
      | ((with_reducible refine Tst.beqT ?_))
      | ((with_reducible refine Tst.beqF ?_))
      | (refine Tst.yes rfl ?_; conv => whnf)
      | (refine Tst.no rfl ?_; conv => whnf)))
  · have hi : i < q.os.length := by omega
    refine ElemV.sl (hq.o.ext hm4.ext) rfl i rfl hi ?_
    intro gb goff hc
    (conv => whnf)
    refine LoadV.cell0 hc ?_
    (conv => whnf)
    refine CallV.of (number_any l A c q.os[i].v w6 (hvs.sl.ext he4) (by omega)) ?_
    rintro v w6 ⟨⟨j, rfl, j0, j1, hj⟩, rfl⟩
    (conv => whnf)
    (repeat' (first
      | (refine Obl.mk ⟨by omega, by omega⟩ ?_; conv => whnf)
      | (refine Obl.mk ⟨by omega, by omega, ⟨by omega, by omega⟩⟩ ?_; conv => whnf)
      | ((with_reducible refine Tst.tt ?_); conv => whnf)
      | ((with_reducible refine Tst.ff ?_); conv => whnf)
      | ((with_reducible refine Tst.dec (fun _ => ?_) (fun _ => ?_)) <;> first | (exfalso; omega) | (conv => whnf))
      | ((with_reducible refine Tst.not ?_))
      | (refine Wit.conv ⟨by omega, by omega⟩ ?_; conv => whnf)
      | ((with_reducible refine IdxV.nat (by omega) ?_); conv => whnf)
      | ((with_reducible refine SameW.mk rfl ?_); conv => whnf)
      | (refine LoadV.mem (i := 0) (by assumption) rfl rfl ?_; conv => whnf)
      | (refine LoadV.mem (i := 1) (by assumption) rfl rfl ?_; conv => whnf)
      | (refine LoadV.mem (i := 2) (by assumption) rfl rfl ?_; conv => whnf)
      | ((with_reducible refine Tst.beqT ?_))
      | ((with_reducible refine Tst.beqF ?_))
      | (refine Tst.yes rfl ?_; conv => whnf)
      | (refine Tst.no rfl ?_; conv => whnf)))
    · have hE := nameE_out (vs := l) (x := q.os[i].v) (fun h => by have := hj.1 h; omega)
      exact ⟨by rw [hC, first_bad (fun o : OL => nameE l o.v) q.os i hi i2 (by simp only [hE]; omega)]; simp only [hE]; rfl, hm4.ext⟩
    · exact ⟨i + 1, ⟨rfl, rfl, rfl, rfl, trivial⟩, ⟨by omega, first_next (fun o : OL => nameE l o.v) q.os i hi i2 (nameE_in (hj.2 (by omega))), rfl⟩, by omega⟩
  · exact ⟨by rw [hC, first_good (fun o : OL => nameE l o.v) q.os (fun j hj => i2 j hj (by omega))]; rfl, hm4.ext⟩
end Go.Proofs.YtajgbepghniciaaGreatDoor
namespace Go.Proofs.YtajgbepghniciaaGreatDoor
open Go.RowKit V
set_option maxRecDepth 100000
theorem stands_any (k : Nat) (t : TM) (w : World) : Gv Tryz.prog 68 [.int .i64 k, termV t] w fun v w' => v = .bool (canB k t) ∧ Ext w w' := by
  refine gv (by kernel_rfl) Tryz.func68 rfl Tryz.ntmps68 rfl ?_; conv => whnf
  refine NewV.mem (Mem.nil w) ?_
  intro b w1 hm
  (conv => whnf)
  (repeat' (first
      | (refine Obl.mk ⟨by omega, by omega⟩ ?_; conv => whnf)
      | (refine Obl.mk ⟨by omega, by omega, ⟨by omega, by omega⟩⟩ ?_; conv => whnf)
      | ((with_reducible refine Tst.tt ?_); conv => whnf)
      | ((with_reducible refine Tst.ff ?_); conv => whnf)
      | ((with_reducible refine Tst.dec (fun _ => ?_) (fun _ => ?_)) <;> first | (exfalso; omega) | (conv => whnf))
      | ((with_reducible refine Tst.not ?_))
      | (refine Wit.conv ⟨by omega, by omega⟩ ?_; conv => whnf)
      | ((with_reducible refine IdxV.nat (by omega) ?_); conv => whnf)
      | ((with_reducible refine SameW.mk rfl ?_); conv => whnf)
      | (refine LoadV.mem (i := 0) (by assumption) rfl rfl ?_; conv => whnf)
      | (refine LoadV.mem (i := 1) (by assumption) rfl rfl ?_; conv => whnf)
      | (refine LoadV.mem (i := 2) (by assumption) rfl rfl ?_; conv => whnf)
      | ((with_reducible refine Tst.beqT ?_))
      | ((with_reducible refine Tst.beqF ?_))
      | (refine Tst.yes rfl ?_; conv => whnf)
      | (refine Tst.no rfl ?_; conv => whnf)))
  · exact ⟨congrArg Value.bool (by rw [canB, if_pos (by omega)]; simp [*]), hm.ext⟩
  · exact ⟨congrArg Value.bool (by rw [canB, if_pos (by omega)]; simp [*]), hm.ext⟩
  · exact ⟨congrArg Value.bool (by rw [canB, if_neg (by omega), if_pos (by omega)]), hm.ext⟩
  · exact ⟨congrArg Value.bool (by rw [canB, if_neg (by omega), if_neg (by omega), if_pos (by omega), Bool.eq_iff_iff]; simp; omega), hm.ext⟩
  · exact ⟨congrArg Value.bool (by rw [canB, if_neg (by omega), if_neg (by omega), if_pos (by omega), Bool.eq_iff_iff]; simp; omega), hm.ext⟩
  · exact ⟨congrArg Value.bool (by rw [canB, if_neg (by omega), if_neg (by omega), if_pos (by omega), Bool.eq_iff_iff]; simp; omega), hm.ext⟩
  · exact ⟨congrArg Value.bool (by rw [canB, if_neg (by omega), if_neg (by omega), if_neg (by omega)]; simp [*]), hm.ext⟩
  · exact ⟨congrArg Value.bool (by rw [canB, if_neg (by omega), if_neg (by omega), if_neg (by omega)]; simp [*]), hm.ext⟩
  · refine LoadA.mem hm (i := 0) rfl rfl ?_
    (conv => whnf)
    (repeat' (first
      | (refine Obl.mk ⟨by omega, by omega⟩ ?_; conv => whnf)
      | (refine Obl.mk ⟨by omega, by omega, ⟨by omega, by omega⟩⟩ ?_; conv => whnf)
      | ((with_reducible refine Tst.tt ?_); conv => whnf)
      | ((with_reducible refine Tst.ff ?_); conv => whnf)
      | ((with_reducible refine Tst.dec (fun _ => ?_) (fun _ => ?_)) <;> first | (exfalso; omega) | (conv => whnf))
      | ((with_reducible refine Tst.not ?_))
      | (refine Wit.conv ⟨by omega, by omega⟩ ?_; conv => whnf)
      | ((with_reducible refine IdxV.nat (by omega) ?_); conv => whnf)
      | ((with_reducible refine SameW.mk rfl ?_); conv => whnf)
      | (refine LoadV.mem (i := 0) (by assumption) rfl rfl ?_; conv => whnf)
      | (refine LoadV.mem (i := 1) (by assumption) rfl rfl ?_; conv => whnf)
      | (refine LoadV.mem (i := 2) (by assumption) rfl rfl ?_; conv => whnf)
      | ((with_reducible refine Tst.beqT ?_))
      | ((with_reducible refine Tst.beqF ?_))
      | (refine Tst.yes rfl ?_; conv => whnf)
      | (refine Tst.no rfl ?_; conv => whnf)))
    refine RunV.eqTerm (a := t) (b := ⟨0, ⟨#[]⟩, ⟨#[]⟩, ⟨#[]⟩⟩) (.inl rfl) ?_
    have hc : canB k t = (zeroT t || decide (t.kind = 1) || decide (t.kind = 2)) := by rw [canB, if_neg (by omega), if_neg (by omega), if_neg (by omega)]
    have hz : sameT t ⟨0, ⟨#[]⟩, ⟨#[]⟩, ⟨#[]⟩⟩ = zeroT t := rfl
    rw [hz]
    (conv => whnf)
    (repeat' (first
      | (refine Obl.mk ⟨by omega, by omega⟩ ?_; conv => whnf)
      | (refine Obl.mk ⟨by omega, by omega, ⟨by omega, by omega⟩⟩ ?_; conv => whnf)
      | ((with_reducible refine Tst.tt ?_); conv => whnf)
      | ((with_reducible refine Tst.ff ?_); conv => whnf)
      | ((with_reducible refine Tst.dec (fun _ => ?_) (fun _ => ?_)) <;> first | (exfalso; omega) | (conv => whnf))
      | ((with_reducible refine Tst.not ?_))
      | (refine Wit.conv ⟨by omega, by omega⟩ ?_; conv => whnf)
      | ((with_reducible refine IdxV.nat (by omega) ?_); conv => whnf)
      | ((with_reducible refine SameW.mk rfl ?_); conv => whnf)
      | (refine LoadV.mem (i := 0) (by assumption) rfl rfl ?_; conv => whnf)
      | (refine LoadV.mem (i := 1) (by assumption) rfl rfl ?_; conv => whnf)
      | (refine LoadV.mem (i := 2) (by assumption) rfl rfl ?_; conv => whnf)
      | ((with_reducible refine Tst.beqT ?_))
      | ((with_reducible refine Tst.beqF ?_))
      | (refine Tst.yes rfl ?_; conv => whnf)
      | (refine Tst.no rfl ?_; conv => whnf)))
    exact ⟨congrArg Value.bool (by rw [hc]; simp [*, eqOp]), hm.ext⟩
structure Q4 where
  s : TM
  p : TM
  o : TM
  g : TM
def Q4.at (q : Q4) : Nat → TM
  | 0 => q.s
  | 1 => q.p
  | 2 => q.o
  | _ => q.g
def quadC (q : Q4) : List Value := encT q.s ++ (encT q.p ++ (encT q.o ++ encT q.g))
def quadV (q : Q4) : Value := .agg #[.int .i64 q.s.kind, .string q.s.text, .string q.s.type, .string q.s.lang, .int .i64 q.p.kind, .string q.p.text, .string q.p.type, .string q.p.lang,
  .int .i64 q.o.kind, .string q.o.text, .string q.o.type, .string q.o.lang, .int .i64 q.g.kind, .string q.g.text, .string q.g.type, .string q.g.lang]
noncomputable def qE (k : Nat) (t : TM) : Nat := if canB k t = false then 70 else if k = 3 ∧ t.kind = 0 then 0 else termE t
noncomputable def quadE (q : Q4) : Nat := firstE ((List.range 4).map fun k => qE k (q.at k))
theorem quadC_at {q : Q4} {w : World} {b off : Nat} (h : CellsAt w b off (quadC q)) (k : Nat) (hk : k < 4) : CellsAt w b (off + k * 4) (encT (q.at k)) := by
  intro j v hv
  have hj : j < 4 := (List.getElem?_eq_some_iff.1 hv).1
  have := h (k * 4 + j) v (by
    obtain rfl | rfl | rfl | rfl : k = 0 ∨ k = 1 ∨ k = 2 ∨ k = 3 := by omega
    all_goals
      obtain rfl | rfl | rfl | rfl : j = 0 ∨ j = 1 ∨ j = 2 ∨ j = 3 := by omega
      all_goals exact hv)
  rwa [← Nat.add_assoc] at this
theorem encT_one (t : TM) : ∀ v ∈ encT t, v.oneCell' = true := by
  intro v hv
  simp only [encT, List.mem_cons, List.not_mem_nil, or_false] at hv
  rcases hv with rfl | rfl | rfl | rfl <;> rfl
def QuadOk (q : Q4) : Prop := ∀ k, TermOk (q.at k)
theorem quad_drop (q : Q4) (k : Nat) (hk : k < 4) : ((quadV q).cells.toList.drop (k * 4)).take 4 = encT (q.at k) := by
  obtain rfl | rfl | rfl | rfl : k = 0 ∨ k = 1 ∨ k = 2 ∨ k = 3 := by omega
  all_goals rfl
set_option maxHeartbeats 400000 in
theorem checkQuad_any (q : Q4) (hq : QuadOk q) (w : World) (hM : MaxLenAt w) (hT : CellsAt w 3 0 basesV) : Gv Tryz.prog 30 [quadV q] w fun v w' => v = .int .i64 (quadE q) ∧ Ext w w' := by
  refine gv (by kernel_rfl) Tryz.func30 rfl Tryz.ntmps30 rfl ?_; conv => whnf
  refine NewV.mem (Mem.nil w) ?_
  intro b w1 hm
  have hc : CellsAt w1 b 0 (quadC q) := CellsAt.mem hm (List.mem_cons_self ..)
  (conv => whnf)
  refine LoadA.cells (quadC_at hc 0 (by omega)) rfl ?_
  (conv => whnf)
  refine LoadA.cells (quadC_at hc 1 (by omega)) rfl ?_
  (conv => whnf)
  refine LoadA.cells (quadC_at hc 2 (by omega)) rfl ?_
  (conv => whnf)
  refine LoadA.cells (quadC_at hc 3 (by omega)) rfl ?_
  (conv => whnf)
  have hlen : ((List.range 4).map fun k => qE k (q.at k)).length = 4 := by simp
  have hget : ∀ j (hj : j < ((List.range 4).map fun k => qE k (q.at k)).length), ((List.range 4).map fun k => qE k (q.at k))[j] = qE j (q.at j) := fun j hj => by simp
  refine loopV (fun k : Nat => [(1, .pointer (some ⟨b, 0, none⟩)), (2, .int .i64 0), (14, quadV q), (15, .int .i64 k)])
    (fun k w' => k ≤ 4 ∧ (∀ j, j < k → qE j (q.at j) = 0) ∧ Mem w w' [(b, .cells (quadC q).toArray 75 (0, 0))]) (fun k => 4 - k) 0 ⟨rfl, rfl, rfl, rfl, trivial⟩ ⟨by omega, fun j h0 => by omega, hm⟩ ?_
  rintro k w2 ρ' ⟨k1, k2, hm2⟩
  (conv => whnf)
  (repeat' (first
      | (refine Obl.mk ⟨by omega, by omega⟩ ?_; conv => whnf)
      | (refine Obl.mk ⟨by omega, by omega, ⟨by omega, by omega⟩⟩ ?_; conv => whnf)
      | ((with_reducible refine Tst.tt ?_); conv => whnf)
      | ((with_reducible refine Tst.ff ?_); conv => whnf)
      | ((with_reducible refine Tst.dec (fun _ => ?_) (fun _ => ?_)) <;> first | (exfalso; omega) | (conv => whnf))
      | ((with_reducible refine Tst.not ?_))
      | (refine Wit.conv ⟨by omega, by omega⟩ ?_; conv => whnf)
      | ((with_reducible refine IdxV.nat (by omega) ?_); conv => whnf)
      | ((with_reducible refine SameW.mk rfl ?_); conv => whnf)
      | (refine LoadV.mem (i := 0) (by assumption) rfl rfl ?_; conv => whnf)
      | (refine LoadV.mem (i := 1) (by assumption) rfl rfl ?_; conv => whnf)
      | (refine LoadV.mem (i := 2) (by assumption) rfl rfl ?_; conv => whnf)
      | ((with_reducible refine Tst.beqT ?_))
      | ((with_reducible refine Tst.beqF ?_))
      | (refine Tst.yes rfl ?_; conv => whnf)
      | (refine Tst.no rfl ?_; conv => whnf)))
  · have hk : k < 4 := by omega
    have hbad : ∀ e, qE k (q.at k) = e → e ≠ 0 → quadE q = e := fun e he hne => by
      rw [quadE, firstE_at (k := k) (by rw [hlen]; exact hk) (fun j hj hjk => by rw [hget]; exact k2 j hjk) (by rw [hget, he]; exact hne), hget, he]
    have hgood : qE k (q.at k) = 0 → ∀ j, j < k + 1 → qE j (q.at j) = 0 := fun he j hj => by
      by_cases e : j = k
      · subst e; exact he
      · exact k2 j (by omega)
    refine Wit.eq (y := encT (q.at k)) (quad_drop q k hk) ?_
    (conv => whnf)
    refine NewV.mem hm2 ?_
    intro r w3 hm3
    (conv => whnf)
    refine StoreA.all (vs := encT (q.at k)) hm3 (i := 0) rfl rfl (encT_one _) ?_
    intro w4 hm4
    have hm4 : Mem w w4 [(r, .cells (encT (q.at k)).toArray 73 (0, 0)), _] := hm4
    (conv => whnf)
    refine LoadA.mem hm4 (i := 0) rfl rfl ?_
    (conv => whnf)
    refine CallV.of (stands_any k (q.at k) w4) ?_
    rintro v w5 ⟨rfl, he5⟩
    have hm5 := hm4.call he5
    cases hcan : canB k (q.at k)
    · (conv => whnf)
      (repeat' (first
      | (refine Obl.mk ⟨by omega, by omega⟩ ?_; conv => whnf)
      | (refine Obl.mk ⟨by omega, by omega, ⟨by omega, by omega⟩⟩ ?_; conv => whnf)
      | ((with_reducible refine Tst.tt ?_); conv => whnf)
      | ((with_reducible refine Tst.ff ?_); conv => whnf)
      | ((with_reducible refine Tst.dec (fun _ => ?_) (fun _ => ?_)) <;> first | (exfalso; omega) | (conv => whnf))
      | ((with_reducible refine Tst.not ?_))
      | (refine Wit.conv ⟨by omega, by omega⟩ ?_; conv => whnf)
      | ((with_reducible refine IdxV.nat (by omega) ?_); conv => whnf)
      | ((with_reducible refine SameW.mk rfl ?_); conv => whnf)
      | (refine LoadV.mem (i := 0) (by assumption) rfl rfl ?_; conv => whnf)
      | (refine LoadV.mem (i := 1) (by assumption) rfl rfl ?_; conv => whnf)
      | (refine LoadV.mem (i := 2) (by assumption) rfl rfl ?_; conv => whnf)
      | ((with_reducible refine Tst.beqT ?_))
      | ((with_reducible refine Tst.beqF ?_))
      | (refine Tst.yes rfl ?_; conv => whnf)
      | (refine Tst.no rfl ?_; conv => whnf)))
      exact ⟨by rw [hbad 70 (by rw [qE, if_pos hcan]) (by decide)]; rfl, hm5.ext⟩
    · (conv => whnf)
      (repeat' (first
      | (refine Obl.mk ⟨by omega, by omega⟩ ?_; conv => whnf)
      | (refine Obl.mk ⟨by omega, by omega, ⟨by omega, by omega⟩⟩ ?_; conv => whnf)
      | ((with_reducible refine Tst.tt ?_); conv => whnf)
      | ((with_reducible refine Tst.ff ?_); conv => whnf)
      | ((with_reducible refine Tst.dec (fun _ => ?_) (fun _ => ?_)) <;> first | (exfalso; omega) | (conv => whnf))
      | ((with_reducible refine Tst.not ?_))
      | (refine Wit.conv ⟨by omega, by omega⟩ ?_; conv => whnf)
      | ((with_reducible refine IdxV.nat (by omega) ?_); conv => whnf)
      | ((with_reducible refine SameW.mk rfl ?_); conv => whnf)
      | (refine LoadV.mem (i := 0) (by assumption) rfl rfl ?_; conv => whnf)
      | (refine LoadV.mem (i := 1) (by assumption) rfl rfl ?_; conv => whnf)
      | (refine LoadV.mem (i := 2) (by assumption) rfl rfl ?_; conv => whnf)
      | ((with_reducible refine Tst.beqT ?_))
      | ((with_reducible refine Tst.beqF ?_))
      | (refine Tst.yes rfl ?_; conv => whnf)
      | (refine Tst.no rfl ?_; conv => whnf)))
      · refine ⟨?_, hm5.ext⟩
        have e0 : qE k (q.at k) = 0 := by rw [qE, if_neg (by rw [hcan]; simp), if_pos ⟨by omega, by omega⟩]
        have h4 := hgood e0
        rw [quadE, firstE_zero fun j hj => by rw [hget]; exact h4 j (by rw [hlen] at hj; omega)]
        rfl
      all_goals
        have hE : qE k (q.at k) = termE (q.at k) := by rw [qE, if_neg (by rw [hcan]; simp), if_neg (by omega)]
        refine LoadA.mem hm5 (i := 0) rfl rfl ?_
        (conv => whnf)
        refine CallV.of (termCheck_any (q.at k) (hq k) w5 (hM.ext hm5.ext) (hT.ext hm5.ext)) ?_
        rintro v w6 ⟨rfl, he6⟩
        rw [← hE]
        (conv => whnf)
        (repeat' (first
      | (refine Obl.mk ⟨by omega, by omega⟩ ?_; conv => whnf)
      | (refine Obl.mk ⟨by omega, by omega, ⟨by omega, by omega⟩⟩ ?_; conv => whnf)
      | ((with_reducible refine Tst.tt ?_); conv => whnf)
      | ((with_reducible refine Tst.ff ?_); conv => whnf)
      | ((with_reducible refine Tst.dec (fun _ => ?_) (fun _ => ?_)) <;> first | (exfalso; omega) | (conv => whnf))
      | ((with_reducible refine Tst.not ?_))
      | (refine Wit.conv ⟨by omega, by omega⟩ ?_; conv => whnf)
      | ((with_reducible refine IdxV.nat (by omega) ?_); conv => whnf)
      | ((with_reducible refine SameW.mk rfl ?_); conv => whnf)
      | (refine LoadV.mem (i := 0) (by assumption) rfl rfl ?_; conv => whnf)
      | (refine LoadV.mem (i := 1) (by assumption) rfl rfl ?_; conv => whnf)
      | (refine LoadV.mem (i := 2) (by assumption) rfl rfl ?_; conv => whnf)
      | ((with_reducible refine Tst.beqT ?_))
      | ((with_reducible refine Tst.beqF ?_))
      | (refine Tst.yes rfl ?_; conv => whnf)
      | (refine Tst.no rfl ?_; conv => whnf)))
        · exact ⟨by rw [hbad _ rfl (by omega)], hm5.ext.trans he6⟩
        · exact ⟨k + 1, ⟨rfl, rfl, rfl, rfl, trivial⟩, ⟨by omega, hgood (by omega), (hm5.call he6).sub (List.sublist_cons_self ..)⟩, by omega⟩
  · refine ⟨?_, hm2.ext⟩
    rw [quadE, firstE_zero fun j hj => by rw [hget]; exact k2 j (by rw [hlen] at hj; omega)]
    rfl
end Go.Proofs.YtajgbepghniciaaGreatDoor
