/- The law PathTexts: back. -/
import Derived.Test.YtajgbepghniciaaGreatDoorLent
import Derived.Test.YtajgbepghniciaaGreatDoorSame
namespace Go.Proofs.YtajgbepghniciaaGreatDoor
open Go.RowKit V
set_option maxRecDepth 100000

/-- a lent list lies in the world, with its holder's word behind -/
structure RowW (w : World) (A : Option Addr) (c : Nat) (l : List ByteArray) : Prop where
  h : ∃ g, A = some ⟨g, 0, none⟩ ∧ l.length + 1 ≤ c ∧ CellsAt w g 0 (l.map Value.string ++ [.string holder])
theorem RowW.ext {w w' : World} {A : Option Addr} {c : Nat} {l : List ByteArray} (h : RowW w A c l) (he : Ext w w') : RowW w' A c l := by
  obtain ⟨g, h1, h2, h3⟩ := h
  exact ⟨g, h1, h2, h3.ext he⟩
theorem cellsAt_heap {w : World} {b : Nat} {cur : Array Value} {t : TypeId} {fr : Nat × Nat} {vs : List Value} (h : w.heap[b]? = some (.cells cur t fr)) (hv : ∀ (k : Nat) v, vs[k]? = some v → cur.toList[k]? = some v) : CellsAt w b 0 vs := by
  intro k v hk
  rw [cell_heap h, Nat.zero_add, ← Array.getElem?_toList]
  exact hv k v hk
theorem RowOk.w {w0 w : World} {R L : List (Nat × Obj)} {A : Option Addr} {c : Nat} {l : List ByteArray} (h : RowOk R A c l) (hm : Mem w0 w L) (hs : ∀ x ∈ R, x ∈ L) : RowW w A c l := by
  obtain ⟨g, cur, h1, h2, h3, h4⟩ := h
  refine ⟨g, h1, h2, cellsAt_heap (hm.get (hs _ h3)) fun k v hk => ?_⟩
  rw [← h4, List.getElem?_take] at hk
  split at hk
  · exact hk
  · cases hk
theorem RowW.sl {w : World} {A : Option Addr} {c : Nat} {l : List ByteArray} (h : RowW w A c l) : SlAt encS 1 w A l := by
  obtain ⟨g, h1, _, h3⟩ := h
  refine ⟨fun _ => ⟨g, 0, h1, fun j x hx k v hv => ?_⟩⟩
  cases k with
  | zero =>
    simp only [encS, List.getElem?_cons_zero, Option.some.injEq] at hv
    subst hv
    have hj : j < l.length := (List.getElem?_eq_some_iff.1 hx).1
    have := h3 j (.string x) (by rw [List.getElem?_append_left (by simpa using hj), List.getElem?_map, hx]; rfl)
    simpa using this
  | succ k => simp [encS] at hv
structure LentW (w : World) (n q : PN) : Prop where
  same : SameN n q
  f : RowW w q.fA q.fc q.f
  v : RowW w q.vA q.vc q.v
theorem LentW.ext {w w' : World} {n q : PN} (h : LentW w n q) (he : Ext w w') : LentW w' n q := ⟨h.same, h.f.ext he, h.v.ext he⟩
theorem LentN.w {w0 w : World} {R L : List (Nat × Obj)} {n q : PN} (h : LentN R n q) (hm : Mem w0 w L) (hs : ∀ x ∈ R, x ∈ L) : LentW w n q := ⟨h.same, h.f.w hm hs, h.v.w hm hs⟩
theorem LentW.ok {w : World} {n q : PN} (h : LentW w n q) (hn : NodeOk w n) : NodeOk w q :=
  { op := by rw [h.same.op]; exact hn.op
    a := by rw [h.same.a]; exact hn.a
    b := by rw [h.same.b]; exact hn.b
    iri := by rw [h.same.iri]; exact hn.iri
    fl := by rw [h.same.f]; exact hn.fl
    vl := by rw [h.same.v]; exact hn.vl
    fs := by rw [h.same.f]; exact hn.fs
    vs := by rw [h.same.v]; exact hn.vs
    fA := h.f.sl
    vA := h.v.sl }
theorem flat_get : ∀ (q : List PN) (rest : List Value) (j : Nat) (n : PN), q[j]? = some n → ∀ k v, (encN n)[k]? = some v → (q.flatMap encN ++ rest)[j * 6 + k]? = some v
  | [], _, _, _, h, _, _, _ => by simp at h
  | m :: q, rest, 0, n, h, k, v, hv => by
    simp at h
    subst h
    rw [List.flatMap_cons, List.append_assoc, Nat.zero_mul, Nat.zero_add, List.getElem?_append_left (List.getElem?_eq_some_iff.1 hv).1]
    exact hv
  | m :: q, rest, j + 1, n, h, k, v, hv => by
    have e : (j + 1) * 6 + k = (encN m).length + (j * 6 + k) := by simp [encN]; omega
    rw [List.flatMap_cons, List.append_assoc, e, List.getElem?_append_right (Nat.le_add_right _ _), Nat.add_sub_cancel_left]
    exact flat_get q rest j n (by simpa using h) k v hv
theorem slAt_flat {w : World} {b : Nat} {q : List PN} {rest : List Value} (h : CellsAt w b 0 (q.flatMap encN ++ rest)) : SlAt encN 6 w (some ⟨b, 0, none⟩) q := by
  refine ⟨fun _ => ⟨b, 0, rfl, fun j x hx k v hv => ?_⟩⟩
  have := h (j * 6 + k) v (flat_get q rest j x hx k v hv)
  rw [Nat.zero_add] at this
  rw [Nat.zero_add]
  exact this
/-- what lies lent -/
structure Lent (w : World) (ob : Nat) (p q : List PN) : Prop where
  len : q.length = p.length
  at_ : ∀ k (h : k < p.length) (h' : k < q.length), LentW w p[k] q[k]
  row : CellsAt w ob 0 (q.flatMap encN ++ ([Value.int .i64 77] ++ zeroN.drop 1))
theorem Lent.ext {w w' : World} {ob : Nat} {p q : List PN} (h : Lent w ob p q) (he : Ext w w') : Lent w' ob p q := ⟨h.len, fun k h1 h2 => (h.at_ k h1 h2).ext he, h.row.ext he⟩
theorem Lent.same {w : World} {ob : Nat} {p q : List PN} (h : Lent w ob p q) : SameP p q := ⟨h.len, fun k h1 h2 => (h.at_ k h1 h2).same⟩
theorem Lent.ok {w : World} {ob : Nat} {p q : List PN} (h : Lent w ob p q) (hp : ∀ n ∈ p, NodeOk w n) : ∀ n ∈ q, NodeOk w n := by
  intro n hn
  obtain ⟨k, hk, rfl⟩ := List.mem_iff_getElem.1 hn
  have hkp : k < p.length := by have := h.len; omega
  exact (h.at_ k hkp hk).ok (hp _ (List.getElem_mem hkp))
theorem Lent.path {w : World} {A : Option Addr} {ob : Nat} {p q : List PN} (h : Lent w ob p q) (hp : PathAt w A p) : PathAt w (some ⟨ob, 0, none⟩) q := by
  refine ⟨slAt_flat h.row, h.ok hp.ok, fun n hn => ?_, by rw [h.len]; exact hp.len⟩
  obtain ⟨k, hk, rfl⟩ := List.mem_iff_getElem.1 hn
  have hkp : k < p.length := by have := h.len; omega
  have := (h.at_ k hkp hk).same
  rw [this.f, this.v]
  exact hp.few _ (List.getElem_mem hkp)

theorem holder_at {w : World} {g : Nat} {l : List ByteArray} (h : CellsAt w g 0 (l.map Value.string ++ [.string holder])) : w.cell? ⟨g, l.length, none⟩ = some (.string holder) := by
  have := h l.length (.string holder) (by rw [List.getElem?_append_right (by simp)]; simp)
  rwa [Nat.zero_add] at this
theorem back_any (p q : List PN) (A : Option Addr) (c ob : Nat) (w : World) (hp : PathAt w A p) (hq : Lent w ob p q) :
    Gv Tryz.prog 13 [.slice (some ⟨ob, 0, none⟩) p.length (p.length + 1), .slice A p.length c] w fun v w' => v = .bool true ∧ Ext w w' := by
  have hl := hp.len
  have hlen := hq.len
  have hqp := hq.path hp
  have hsame := fun w' (he : Ext w w') => samePath_any p q A (some ⟨ob, 0, none⟩) c (p.length + 1) w' hlen (fun k h => (hq.at_ k h (hlen ▸ h)).same) (hp.sl.ext he) (hqp.sl.ext he) (fun n hn => (hp.ok n hn).ext he) (fun n hn => (hqp.ok n hn).ext he) (by omega)
  have h77 : ∀ w', Ext w w' → w'.cell? ⟨ob, p.length * 6, none⟩ = some (.int .i64 77) := fun w' he => by
    have := (hq.row.ext he) (p.length * 6) (.int .i64 77) (by
      rw [← hlen, ← flat_len q, List.getElem?_append_right (Nat.le_refl _), Nat.sub_self]; rfl)
    rwa [Nat.zero_add] at this
  refine gv (by kernel_rfl) Tryz.func13 rfl Tryz.ntmps13 rfl ?_; conv => whnf
  (repeat' (first
      | (refine Obl.mk ⟨by omega, by omega⟩ ?_; conv => whnf)
      | (refine Obl.mk ⟨by omega, by omega, ⟨by omega, by omega⟩⟩ ?_; conv => whnf)
      | ((with_reducible refine Tst.tt ?_); conv => whnf)
      | ((with_reducible refine Tst.ff ?_); conv => whnf)
      | ((with_reducible refine Tst.dec (fun _ => ?_) (fun _ => ?_)) <;> first | (exfalso; omega) | (conv => whnf))
      | ((with_reducible refine Tst.not ?_))
      | (refine Wit.conv ⟨by omega, by omega⟩ ?_; conv => whnf)
      | ((with_reducible refine IdxV.nat (by omega) ?_); conv => whnf)
      | ((with_reducible refine SameW.mk rfl ?_); conv => whnf)
      | (refine LoadV.mem (i := 0) (by assumption) rfl rfl ?_; conv => whnf)
      | (refine LoadV.mem (i := 1) (by assumption) rfl rfl ?_; conv => whnf)
      | (refine LoadV.mem (i := 2) (by assumption) rfl rfl ?_; conv => whnf)
      | ((with_reducible refine Tst.beqT ?_))
      | ((with_reducible refine Tst.beqF ?_))
      | (refine Tst.yes rfl ?_; conv => whnf)
      | (refine Tst.no rfl ?_; conv => whnf)))
  refine SliceV.head (m := p.length + 1) (by omega) rfl ?_
  (conv => whnf)
  refine CallV.of (hsame w (Ext.refl w)) ?_
  rintro v w1 ⟨rfl, he1⟩
  (conv => whnf)
  (repeat' (first
      | (refine Obl.mk ⟨by omega, by omega⟩ ?_; conv => whnf)
      | (refine Obl.mk ⟨by omega, by omega, ⟨by omega, by omega⟩⟩ ?_; conv => whnf)
      | ((with_reducible refine Tst.tt ?_); conv => whnf)
      | ((with_reducible refine Tst.ff ?_); conv => whnf)
      | ((with_reducible refine Tst.dec (fun _ => ?_) (fun _ => ?_)) <;> first | (exfalso; omega) | (conv => whnf))
      | ((with_reducible refine Tst.not ?_))
      | (refine Wit.conv ⟨by omega, by omega⟩ ?_; conv => whnf)
      | ((with_reducible refine IdxV.nat (by omega) ?_); conv => whnf)
      | ((with_reducible refine SameW.mk rfl ?_); conv => whnf)
      | (refine LoadV.mem (i := 0) (by assumption) rfl rfl ?_; conv => whnf)
      | (refine LoadV.mem (i := 1) (by assumption) rfl rfl ?_; conv => whnf)
      | (refine LoadV.mem (i := 2) (by assumption) rfl rfl ?_; conv => whnf)
      | ((with_reducible refine Tst.beqT ?_))
      | ((with_reducible refine Tst.beqF ?_))
      | (refine Tst.yes rfl ?_; conv => whnf)
      | (refine Tst.no rfl ?_; conv => whnf)))
  refine ElemV.own p.length rfl (by omega) ?_
  (conv => whnf)
  (repeat' (first
      | (refine Obl.mk ⟨by omega, by omega⟩ ?_; conv => whnf)
      | (refine Obl.mk ⟨by omega, by omega, ⟨by omega, by omega⟩⟩ ?_; conv => whnf)
      | ((with_reducible refine Tst.tt ?_); conv => whnf)
      | ((with_reducible refine Tst.ff ?_); conv => whnf)
      | ((with_reducible refine Tst.dec (fun _ => ?_) (fun _ => ?_)) <;> first | (exfalso; omega) | (conv => whnf))
      | ((with_reducible refine Tst.not ?_))
      | (refine Wit.conv ⟨by omega, by omega⟩ ?_; conv => whnf)
      | ((with_reducible refine IdxV.nat (by omega) ?_); conv => whnf)
      | ((with_reducible refine SameW.mk rfl ?_); conv => whnf)
      | (refine LoadV.mem (i := 0) (by assumption) rfl rfl ?_; conv => whnf)
      | (refine LoadV.mem (i := 1) (by assumption) rfl rfl ?_; conv => whnf)
      | (refine LoadV.mem (i := 2) (by assumption) rfl rfl ?_; conv => whnf)
      | ((with_reducible refine Tst.beqT ?_))
      | ((with_reducible refine Tst.beqF ?_))
      | (refine Tst.yes rfl ?_; conv => whnf)
      | (refine Tst.no rfl ?_; conv => whnf)))
  refine LoadV.of (h77 w1 he1) ?_
  (conv => whnf)
  (repeat' (first
      | (refine Obl.mk ⟨by omega, by omega⟩ ?_; conv => whnf)
      | (refine Obl.mk ⟨by omega, by omega, ⟨by omega, by omega⟩⟩ ?_; conv => whnf)
      | ((with_reducible refine Tst.tt ?_); conv => whnf)
      | ((with_reducible refine Tst.ff ?_); conv => whnf)
      | ((with_reducible refine Tst.dec (fun _ => ?_) (fun _ => ?_)) <;> first | (exfalso; omega) | (conv => whnf))
      | ((with_reducible refine Tst.not ?_))
      | (refine Wit.conv ⟨by omega, by omega⟩ ?_; conv => whnf)
      | ((with_reducible refine IdxV.nat (by omega) ?_); conv => whnf)
      | ((with_reducible refine SameW.mk rfl ?_); conv => whnf)
      | (refine LoadV.mem (i := 0) (by assumption) rfl rfl ?_; conv => whnf)
      | (refine LoadV.mem (i := 1) (by assumption) rfl rfl ?_; conv => whnf)
      | (refine LoadV.mem (i := 2) (by assumption) rfl rfl ?_; conv => whnf)
      | ((with_reducible refine Tst.beqT ?_))
      | ((with_reducible refine Tst.beqF ?_))
      | (refine Tst.yes rfl ?_; conv => whnf)
      | (refine Tst.no rfl ?_; conv => whnf)))
  refine loopV (fun i : Nat => [(0, .slice (some ⟨ob, 0, none⟩) p.length (p.length + 1)), (1, .slice A p.length c), (6, .int .i64 i)]) (fun i w2 => i ≤ p.length ∧ Ext w w2) (fun i => p.length - i) 0 ⟨rfl, rfl, rfl, trivial⟩ ⟨by omega, he1⟩ ?_
  rintro i w2 ρ' ⟨hi, he⟩
  (conv => whnf)
  (repeat' (first
      | (refine Obl.mk ⟨by omega, by omega⟩ ?_; conv => whnf)
      | (refine Obl.mk ⟨by omega, by omega, ⟨by omega, by omega⟩⟩ ?_; conv => whnf)
      | ((with_reducible refine Tst.tt ?_); conv => whnf)
      | ((with_reducible refine Tst.ff ?_); conv => whnf)
      | ((with_reducible refine Tst.dec (fun _ => ?_) (fun _ => ?_)) <;> first | (exfalso; omega) | (conv => whnf))
      | ((with_reducible refine Tst.not ?_))
      | (refine Wit.conv ⟨by omega, by omega⟩ ?_; conv => whnf)
      | ((with_reducible refine IdxV.nat (by omega) ?_); conv => whnf)
      | ((with_reducible refine SameW.mk rfl ?_); conv => whnf)
      | (refine LoadV.mem (i := 0) (by assumption) rfl rfl ?_; conv => whnf)
      | (refine LoadV.mem (i := 1) (by assumption) rfl rfl ?_; conv => whnf)
      | (refine LoadV.mem (i := 2) (by assumption) rfl rfl ?_; conv => whnf)
      | ((with_reducible refine Tst.beqT ?_))
      | ((with_reducible refine Tst.beqF ?_))
      | (refine Tst.yes rfl ?_; conv => whnf)
      | (refine Tst.no rfl ?_; conv => whnf)))
  · have hil : i < p.length := by omega
    have hilq : i < q.length := by omega
    have hL := (hq.at_ i hil hilq).ext he
    obtain ⟨n, hn⟩ : ∃ n, n = p[i] := ⟨_, rfl⟩
    obtain ⟨m, hm⟩ : ∃ m, m = q[i] := ⟨_, rfl⟩
    rw [← hn, ← hm] at hL
    obtain ⟨gf, hfA, hfc, hfr⟩ := hL.f.h
    obtain ⟨gv, hvA, hvc, hvr⟩ := hL.v.h
    rw [hL.same.f] at hfc hfr
    rw [hL.same.v] at hvc hvr
    have hnok : NodeOk w n := hn ▸ hp.ok _ (List.getElem_mem hil)
    have hfl := hnok.fl
    have hvl := hnok.vl
    refine DrawV.quiet (by kernel_rfl) (by kernel_rfl) ?_; conv => whnf
    (repeat' (first
      | (refine Obl.mk ⟨by omega, by omega⟩ ?_; conv => whnf)
      | (refine Obl.mk ⟨by omega, by omega, ⟨by omega, by omega⟩⟩ ?_; conv => whnf)
      | ((with_reducible refine Tst.tt ?_); conv => whnf)
      | ((with_reducible refine Tst.ff ?_); conv => whnf)
      | ((with_reducible refine Tst.dec (fun _ => ?_) (fun _ => ?_)) <;> first | (exfalso; omega) | (conv => whnf))
      | ((with_reducible refine Tst.not ?_))
      | (refine Wit.conv ⟨by omega, by omega⟩ ?_; conv => whnf)
      | ((with_reducible refine IdxV.nat (by omega) ?_); conv => whnf)
      | ((with_reducible refine SameW.mk rfl ?_); conv => whnf)
      | (refine LoadV.mem (i := 0) (by assumption) rfl rfl ?_; conv => whnf)
      | (refine LoadV.mem (i := 1) (by assumption) rfl rfl ?_; conv => whnf)
      | (refine LoadV.mem (i := 2) (by assumption) rfl rfl ?_; conv => whnf)
      | ((with_reducible refine Tst.beqT ?_))
      | ((with_reducible refine Tst.beqF ?_))
      | (refine Tst.yes rfl ?_; conv => whnf)
      | (refine Tst.no rfl ?_; conv => whnf)))
    refine ElemV.sl (slAt_flat (hq.row.ext he.drew)) hlen i rfl hil ?_
    intro eb off hc
    rw [← hm] at hc
    (conv => whnf)
    (repeat' (first
      | (refine Obl.mk ⟨by omega, by omega⟩ ?_; conv => whnf)
      | (refine Obl.mk ⟨by omega, by omega, ⟨by omega, by omega⟩⟩ ?_; conv => whnf)
      | ((with_reducible refine Tst.tt ?_); conv => whnf)
      | ((with_reducible refine Tst.ff ?_); conv => whnf)
      | ((with_reducible refine Tst.dec (fun _ => ?_) (fun _ => ?_)) <;> first | (exfalso; omega) | (conv => whnf))
      | ((with_reducible refine Tst.not ?_))
      | (refine Wit.conv ⟨by omega, by omega⟩ ?_; conv => whnf)
      | ((with_reducible refine IdxV.nat (by omega) ?_); conv => whnf)
      | ((with_reducible refine SameW.mk rfl ?_); conv => whnf)
      | (refine LoadV.mem (i := 0) (by assumption) rfl rfl ?_; conv => whnf)
      | (refine LoadV.mem (i := 1) (by assumption) rfl rfl ?_; conv => whnf)
      | (refine LoadV.mem (i := 2) (by assumption) rfl rfl ?_; conv => whnf)
      | ((with_reducible refine Tst.beqT ?_))
      | ((with_reducible refine Tst.beqF ?_))
      | (refine Tst.yes rfl ?_; conv => whnf)
      | (refine Tst.no rfl ?_; conv => whnf)))
    refine LoadV.cells hc 4 (v := .slice (some ⟨gf, 0, none⟩) n.f.length m.fc) (by rw [← hfA, ← hL.same.f]; rfl) ?_
    (conv => whnf)
    (repeat' (first
      | (refine Obl.mk ⟨by omega, by omega⟩ ?_; conv => whnf)
      | (refine Obl.mk ⟨by omega, by omega, ⟨by omega, by omega⟩⟩ ?_; conv => whnf)
      | ((with_reducible refine Tst.tt ?_); conv => whnf)
      | ((with_reducible refine Tst.ff ?_); conv => whnf)
      | ((with_reducible refine Tst.dec (fun _ => ?_) (fun _ => ?_)) <;> first | (exfalso; omega) | (conv => whnf))
      | ((with_reducible refine Tst.not ?_))
      | (refine Wit.conv ⟨by omega, by omega⟩ ?_; conv => whnf)
      | ((with_reducible refine IdxV.nat (by omega) ?_); conv => whnf)
      | ((with_reducible refine SameW.mk rfl ?_); conv => whnf)
      | (refine LoadV.mem (i := 0) (by assumption) rfl rfl ?_; conv => whnf)
      | (refine LoadV.mem (i := 1) (by assumption) rfl rfl ?_; conv => whnf)
      | (refine LoadV.mem (i := 2) (by assumption) rfl rfl ?_; conv => whnf)
      | ((with_reducible refine Tst.beqT ?_))
      | ((with_reducible refine Tst.beqF ?_))
      | (refine Tst.yes rfl ?_; conv => whnf)
      | (refine Tst.no rfl ?_; conv => whnf)))
    refine ElemV.sl (hp.sl.ext he.drew) rfl i rfl hil ?_
    intro eb off hc
    rw [← hn] at hc
    (conv => whnf)
    (repeat' (first
      | (refine Obl.mk ⟨by omega, by omega⟩ ?_; conv => whnf)
      | (refine Obl.mk ⟨by omega, by omega, ⟨by omega, by omega⟩⟩ ?_; conv => whnf)
      | ((with_reducible refine Tst.tt ?_); conv => whnf)
      | ((with_reducible refine Tst.ff ?_); conv => whnf)
      | ((with_reducible refine Tst.dec (fun _ => ?_) (fun _ => ?_)) <;> first | (exfalso; omega) | (conv => whnf))
      | ((with_reducible refine Tst.not ?_))
      | (refine Wit.conv ⟨by omega, by omega⟩ ?_; conv => whnf)
      | ((with_reducible refine IdxV.nat (by omega) ?_); conv => whnf)
      | ((with_reducible refine SameW.mk rfl ?_); conv => whnf)
      | (refine LoadV.mem (i := 0) (by assumption) rfl rfl ?_; conv => whnf)
      | (refine LoadV.mem (i := 1) (by assumption) rfl rfl ?_; conv => whnf)
      | (refine LoadV.mem (i := 2) (by assumption) rfl rfl ?_; conv => whnf)
      | ((with_reducible refine Tst.beqT ?_))
      | ((with_reducible refine Tst.beqF ?_))
      | (refine Tst.yes rfl ?_; conv => whnf)
      | (refine Tst.no rfl ?_; conv => whnf)))
    refine LoadV.cells hc 4 rfl ?_
    (conv => whnf)
    (repeat' (first
      | (refine Obl.mk ⟨by omega, by omega⟩ ?_; conv => whnf)
      | (refine Obl.mk ⟨by omega, by omega, ⟨by omega, by omega⟩⟩ ?_; conv => whnf)
      | ((with_reducible refine Tst.tt ?_); conv => whnf)
      | ((with_reducible refine Tst.ff ?_); conv => whnf)
      | ((with_reducible refine Tst.dec (fun _ => ?_) (fun _ => ?_)) <;> first | (exfalso; omega) | (conv => whnf))
      | ((with_reducible refine Tst.not ?_))
      | (refine Wit.conv ⟨by omega, by omega⟩ ?_; conv => whnf)
      | ((with_reducible refine IdxV.nat (by omega) ?_); conv => whnf)
      | ((with_reducible refine SameW.mk rfl ?_); conv => whnf)
      | (refine LoadV.mem (i := 0) (by assumption) rfl rfl ?_; conv => whnf)
      | (refine LoadV.mem (i := 1) (by assumption) rfl rfl ?_; conv => whnf)
      | (refine LoadV.mem (i := 2) (by assumption) rfl rfl ?_; conv => whnf)
      | ((with_reducible refine Tst.beqT ?_))
      | ((with_reducible refine Tst.beqF ?_))
      | (refine Tst.yes rfl ?_; conv => whnf)
      | (refine Tst.no rfl ?_; conv => whnf)))
    refine SliceV.head (m := n.f.length + 1) hfc rfl ?_
    (conv => whnf)
    (repeat' (first
      | (refine Obl.mk ⟨by omega, by omega⟩ ?_; conv => whnf)
      | (refine Obl.mk ⟨by omega, by omega, ⟨by omega, by omega⟩⟩ ?_; conv => whnf)
      | ((with_reducible refine Tst.tt ?_); conv => whnf)
      | ((with_reducible refine Tst.ff ?_); conv => whnf)
      | ((with_reducible refine Tst.dec (fun _ => ?_) (fun _ => ?_)) <;> first | (exfalso; omega) | (conv => whnf))
      | ((with_reducible refine Tst.not ?_))
      | (refine Wit.conv ⟨by omega, by omega⟩ ?_; conv => whnf)
      | ((with_reducible refine IdxV.nat (by omega) ?_); conv => whnf)
      | ((with_reducible refine SameW.mk rfl ?_); conv => whnf)
      | (refine LoadV.mem (i := 0) (by assumption) rfl rfl ?_; conv => whnf)
      | (refine LoadV.mem (i := 1) (by assumption) rfl rfl ?_; conv => whnf)
      | (refine LoadV.mem (i := 2) (by assumption) rfl rfl ?_; conv => whnf)
      | ((with_reducible refine Tst.beqT ?_))
      | ((with_reducible refine Tst.beqF ?_))
      | (refine Tst.yes rfl ?_; conv => whnf)
      | (refine Tst.no rfl ?_; conv => whnf)))
    refine DrawV.quiet (by kernel_rfl) (by kernel_rfl) ?_; conv => whnf
    (repeat' (first
      | (refine Obl.mk ⟨by omega, by omega⟩ ?_; conv => whnf)
      | (refine Obl.mk ⟨by omega, by omega, ⟨by omega, by omega⟩⟩ ?_; conv => whnf)
      | ((with_reducible refine Tst.tt ?_); conv => whnf)
      | ((with_reducible refine Tst.ff ?_); conv => whnf)
      | ((with_reducible refine Tst.dec (fun _ => ?_) (fun _ => ?_)) <;> first | (exfalso; omega) | (conv => whnf))
      | ((with_reducible refine Tst.not ?_))
      | (refine Wit.conv ⟨by omega, by omega⟩ ?_; conv => whnf)
      | ((with_reducible refine IdxV.nat (by omega) ?_); conv => whnf)
      | ((with_reducible refine SameW.mk rfl ?_); conv => whnf)
      | (refine LoadV.mem (i := 0) (by assumption) rfl rfl ?_; conv => whnf)
      | (refine LoadV.mem (i := 1) (by assumption) rfl rfl ?_; conv => whnf)
      | (refine LoadV.mem (i := 2) (by assumption) rfl rfl ?_; conv => whnf)
      | ((with_reducible refine Tst.beqT ?_))
      | ((with_reducible refine Tst.beqF ?_))
      | (refine Tst.yes rfl ?_; conv => whnf)
      | (refine Tst.no rfl ?_; conv => whnf)))
    refine ElemV.sl (slAt_flat (hq.row.ext he.drew.drew)) hlen i rfl hil ?_
    intro eb off hc
    rw [← hm] at hc
    (conv => whnf)
    (repeat' (first
      | (refine Obl.mk ⟨by omega, by omega⟩ ?_; conv => whnf)
      | (refine Obl.mk ⟨by omega, by omega, ⟨by omega, by omega⟩⟩ ?_; conv => whnf)
      | ((with_reducible refine Tst.tt ?_); conv => whnf)
      | ((with_reducible refine Tst.ff ?_); conv => whnf)
      | ((with_reducible refine Tst.dec (fun _ => ?_) (fun _ => ?_)) <;> first | (exfalso; omega) | (conv => whnf))
      | ((with_reducible refine Tst.not ?_))
      | (refine Wit.conv ⟨by omega, by omega⟩ ?_; conv => whnf)
      | ((with_reducible refine IdxV.nat (by omega) ?_); conv => whnf)
      | ((with_reducible refine SameW.mk rfl ?_); conv => whnf)
      | (refine LoadV.mem (i := 0) (by assumption) rfl rfl ?_; conv => whnf)
      | (refine LoadV.mem (i := 1) (by assumption) rfl rfl ?_; conv => whnf)
      | (refine LoadV.mem (i := 2) (by assumption) rfl rfl ?_; conv => whnf)
      | ((with_reducible refine Tst.beqT ?_))
      | ((with_reducible refine Tst.beqF ?_))
      | (refine Tst.yes rfl ?_; conv => whnf)
      | (refine Tst.no rfl ?_; conv => whnf)))
    refine LoadV.cells hc 5 (v := .slice (some ⟨gv, 0, none⟩) n.v.length m.vc) (by rw [← hvA, ← hL.same.v]; rfl) ?_
    (conv => whnf)
    (repeat' (first
      | (refine Obl.mk ⟨by omega, by omega⟩ ?_; conv => whnf)
      | (refine Obl.mk ⟨by omega, by omega, ⟨by omega, by omega⟩⟩ ?_; conv => whnf)
      | ((with_reducible refine Tst.tt ?_); conv => whnf)
      | ((with_reducible refine Tst.ff ?_); conv => whnf)
      | ((with_reducible refine Tst.dec (fun _ => ?_) (fun _ => ?_)) <;> first | (exfalso; omega) | (conv => whnf))
      | ((with_reducible refine Tst.not ?_))
      | (refine Wit.conv ⟨by omega, by omega⟩ ?_; conv => whnf)
      | ((with_reducible refine IdxV.nat (by omega) ?_); conv => whnf)
      | ((with_reducible refine SameW.mk rfl ?_); conv => whnf)
      | (refine LoadV.mem (i := 0) (by assumption) rfl rfl ?_; conv => whnf)
      | (refine LoadV.mem (i := 1) (by assumption) rfl rfl ?_; conv => whnf)
      | (refine LoadV.mem (i := 2) (by assumption) rfl rfl ?_; conv => whnf)
      | ((with_reducible refine Tst.beqT ?_))
      | ((with_reducible refine Tst.beqF ?_))
      | (refine Tst.yes rfl ?_; conv => whnf)
      | (refine Tst.no rfl ?_; conv => whnf)))
    refine ElemV.sl (hp.sl.ext he.drew.drew) rfl i rfl hil ?_
    intro eb off hc
    rw [← hn] at hc
    (conv => whnf)
    (repeat' (first
      | (refine Obl.mk ⟨by omega, by omega⟩ ?_; conv => whnf)
      | (refine Obl.mk ⟨by omega, by omega, ⟨by omega, by omega⟩⟩ ?_; conv => whnf)
      | ((with_reducible refine Tst.tt ?_); conv => whnf)
      | ((with_reducible refine Tst.ff ?_); conv => whnf)
      | ((with_reducible refine Tst.dec (fun _ => ?_) (fun _ => ?_)) <;> first | (exfalso; omega) | (conv => whnf))
      | ((with_reducible refine Tst.not ?_))
      | (refine Wit.conv ⟨by omega, by omega⟩ ?_; conv => whnf)
      | ((with_reducible refine IdxV.nat (by omega) ?_); conv => whnf)
      | ((with_reducible refine SameW.mk rfl ?_); conv => whnf)
      | (refine LoadV.mem (i := 0) (by assumption) rfl rfl ?_; conv => whnf)
      | (refine LoadV.mem (i := 1) (by assumption) rfl rfl ?_; conv => whnf)
      | (refine LoadV.mem (i := 2) (by assumption) rfl rfl ?_; conv => whnf)
      | ((with_reducible refine Tst.beqT ?_))
      | ((with_reducible refine Tst.beqF ?_))
      | (refine Tst.yes rfl ?_; conv => whnf)
      | (refine Tst.no rfl ?_; conv => whnf)))
    refine LoadV.cells hc 5 rfl ?_
    (conv => whnf)
    (repeat' (first
      | (refine Obl.mk ⟨by omega, by omega⟩ ?_; conv => whnf)
      | (refine Obl.mk ⟨by omega, by omega, ⟨by omega, by omega⟩⟩ ?_; conv => whnf)
      | ((with_reducible refine Tst.tt ?_); conv => whnf)
      | ((with_reducible refine Tst.ff ?_); conv => whnf)
      | ((with_reducible refine Tst.dec (fun _ => ?_) (fun _ => ?_)) <;> first | (exfalso; omega) | (conv => whnf))
      | ((with_reducible refine Tst.not ?_))
      | (refine Wit.conv ⟨by omega, by omega⟩ ?_; conv => whnf)
      | ((with_reducible refine IdxV.nat (by omega) ?_); conv => whnf)
      | ((with_reducible refine SameW.mk rfl ?_); conv => whnf)
      | (refine LoadV.mem (i := 0) (by assumption) rfl rfl ?_; conv => whnf)
      | (refine LoadV.mem (i := 1) (by assumption) rfl rfl ?_; conv => whnf)
      | (refine LoadV.mem (i := 2) (by assumption) rfl rfl ?_; conv => whnf)
      | ((with_reducible refine Tst.beqT ?_))
      | ((with_reducible refine Tst.beqF ?_))
      | (refine Tst.yes rfl ?_; conv => whnf)
      | (refine Tst.no rfl ?_; conv => whnf)))
    refine SliceV.head (m := n.v.length + 1) hvc rfl ?_
    (conv => whnf)
    (repeat' (first
      | (refine Obl.mk ⟨by omega, by omega⟩ ?_; conv => whnf)
      | (refine Obl.mk ⟨by omega, by omega, ⟨by omega, by omega⟩⟩ ?_; conv => whnf)
      | ((with_reducible refine Tst.tt ?_); conv => whnf)
      | ((with_reducible refine Tst.ff ?_); conv => whnf)
      | ((with_reducible refine Tst.dec (fun _ => ?_) (fun _ => ?_)) <;> first | (exfalso; omega) | (conv => whnf))
      | ((with_reducible refine Tst.not ?_))
      | (refine Wit.conv ⟨by omega, by omega⟩ ?_; conv => whnf)
      | ((with_reducible refine IdxV.nat (by omega) ?_); conv => whnf)
      | ((with_reducible refine SameW.mk rfl ?_); conv => whnf)
      | (refine LoadV.mem (i := 0) (by assumption) rfl rfl ?_; conv => whnf)
      | (refine LoadV.mem (i := 1) (by assumption) rfl rfl ?_; conv => whnf)
      | (refine LoadV.mem (i := 2) (by assumption) rfl rfl ?_; conv => whnf)
      | ((with_reducible refine Tst.beqT ?_))
      | ((with_reducible refine Tst.beqF ?_))
      | (refine Tst.yes rfl ?_; conv => whnf)
      | (refine Tst.no rfl ?_; conv => whnf)))
    refine ElemV.own1 n.f.length (by omega) (by omega) ?_
    (conv => whnf)
    (repeat' (first
      | (refine Obl.mk ⟨by omega, by omega⟩ ?_; conv => whnf)
      | (refine Obl.mk ⟨by omega, by omega, ⟨by omega, by omega⟩⟩ ?_; conv => whnf)
      | ((with_reducible refine Tst.tt ?_); conv => whnf)
      | ((with_reducible refine Tst.ff ?_); conv => whnf)
      | ((with_reducible refine Tst.dec (fun _ => ?_) (fun _ => ?_)) <;> first | (exfalso; omega) | (conv => whnf))
      | ((with_reducible refine Tst.not ?_))
      | (refine Wit.conv ⟨by omega, by omega⟩ ?_; conv => whnf)
      | ((with_reducible refine IdxV.nat (by omega) ?_); conv => whnf)
      | ((with_reducible refine SameW.mk rfl ?_); conv => whnf)
      | (refine LoadV.mem (i := 0) (by assumption) rfl rfl ?_; conv => whnf)
      | (refine LoadV.mem (i := 1) (by assumption) rfl rfl ?_; conv => whnf)
      | (refine LoadV.mem (i := 2) (by assumption) rfl rfl ?_; conv => whnf)
      | ((with_reducible refine Tst.beqT ?_))
      | ((with_reducible refine Tst.beqF ?_))
      | (refine Tst.yes rfl ?_; conv => whnf)
      | (refine Tst.no rfl ?_; conv => whnf)))
    refine LoadV.of (holder_at (hfr.ext (Ext.refl w2).drew.drew)) ?_
    (conv => whnf)
    (repeat' (first
      | (refine Obl.mk ⟨by omega, by omega⟩ ?_; conv => whnf)
      | (refine Obl.mk ⟨by omega, by omega, ⟨by omega, by omega⟩⟩ ?_; conv => whnf)
      | ((with_reducible refine Tst.tt ?_); conv => whnf)
      | ((with_reducible refine Tst.ff ?_); conv => whnf)
      | ((with_reducible refine Tst.dec (fun _ => ?_) (fun _ => ?_)) <;> first | (exfalso; omega) | (conv => whnf))
      | ((with_reducible refine Tst.not ?_))
      | (refine Wit.conv ⟨by omega, by omega⟩ ?_; conv => whnf)
      | ((with_reducible refine IdxV.nat (by omega) ?_); conv => whnf)
      | ((with_reducible refine SameW.mk rfl ?_); conv => whnf)
      | (refine LoadV.mem (i := 0) (by assumption) rfl rfl ?_; conv => whnf)
      | (refine LoadV.mem (i := 1) (by assumption) rfl rfl ?_; conv => whnf)
      | (refine LoadV.mem (i := 2) (by assumption) rfl rfl ?_; conv => whnf)
      | ((with_reducible refine Tst.beqT ?_))
      | ((with_reducible refine Tst.beqF ?_))
      | (refine Tst.yes rfl ?_; conv => whnf)
      | (refine Tst.no rfl ?_; conv => whnf)))
    refine ElemV.own1 n.v.length (by omega) (by omega) ?_
    (conv => whnf)
    (repeat' (first
      | (refine Obl.mk ⟨by omega, by omega⟩ ?_; conv => whnf)
      | (refine Obl.mk ⟨by omega, by omega, ⟨by omega, by omega⟩⟩ ?_; conv => whnf)
      | ((with_reducible refine Tst.tt ?_); conv => whnf)
      | ((with_reducible refine Tst.ff ?_); conv => whnf)
      | ((with_reducible refine Tst.dec (fun _ => ?_) (fun _ => ?_)) <;> first | (exfalso; omega) | (conv => whnf))
      | ((with_reducible refine Tst.not ?_))
      | (refine Wit.conv ⟨by omega, by omega⟩ ?_; conv => whnf)
      | ((with_reducible refine IdxV.nat (by omega) ?_); conv => whnf)
      | ((with_reducible refine SameW.mk rfl ?_); conv => whnf)
      | (refine LoadV.mem (i := 0) (by assumption) rfl rfl ?_; conv => whnf)
      | (refine LoadV.mem (i := 1) (by assumption) rfl rfl ?_; conv => whnf)
      | (refine LoadV.mem (i := 2) (by assumption) rfl rfl ?_; conv => whnf)
      | ((with_reducible refine Tst.beqT ?_))
      | ((with_reducible refine Tst.beqF ?_))
      | (refine Tst.yes rfl ?_; conv => whnf)
      | (refine Tst.no rfl ?_; conv => whnf)))
    refine LoadV.of (holder_at (hvr.ext (Ext.refl w2).drew.drew)) ?_
    (conv => whnf)
    (repeat' (first
      | (refine Obl.mk ⟨by omega, by omega⟩ ?_; conv => whnf)
      | (refine Obl.mk ⟨by omega, by omega, ⟨by omega, by omega⟩⟩ ?_; conv => whnf)
      | ((with_reducible refine Tst.tt ?_); conv => whnf)
      | ((with_reducible refine Tst.ff ?_); conv => whnf)
      | ((with_reducible refine Tst.dec (fun _ => ?_) (fun _ => ?_)) <;> first | (exfalso; omega) | (conv => whnf))
      | ((with_reducible refine Tst.not ?_))
      | (refine Wit.conv ⟨by omega, by omega⟩ ?_; conv => whnf)
      | ((with_reducible refine IdxV.nat (by omega) ?_); conv => whnf)
      | ((with_reducible refine SameW.mk rfl ?_); conv => whnf)
      | (refine LoadV.mem (i := 0) (by assumption) rfl rfl ?_; conv => whnf)
      | (refine LoadV.mem (i := 1) (by assumption) rfl rfl ?_; conv => whnf)
      | (refine LoadV.mem (i := 2) (by assumption) rfl rfl ?_; conv => whnf)
      | ((with_reducible refine Tst.beqT ?_))
      | ((with_reducible refine Tst.beqF ?_))
      | (refine Tst.yes rfl ?_; conv => whnf)
      | (refine Tst.no rfl ?_; conv => whnf)))
    exact ⟨i + 1, ⟨rfl, rfl, rfl, trivial⟩, ⟨by omega, he.drew.drew⟩, by omega⟩
  · exact ⟨rfl, he⟩
end Go.Proofs.YtajgbepghniciaaGreatDoor
