/- Memory: what a call may do to it, and the blocks that it owns. -/
import Derived.Test.YtajgbepghniciaaGreatDoorV
import Derived.Maps.AppendAt
import Derived.Lib.AppendStr
namespace Go.Proofs.YtajgbepghniciaaGreatDoor
open Go.RowKit
namespace V

/-- All that was there is as it was. -/
def Ext (w w' : World) : Prop := Below w.heap.size w w'
theorem Ext.refl (w : World) : Ext w w := Below.refl _ _
theorem Ext.trans {a b c : World} (h : Ext a b) (k : Ext b c) : Ext a c := Below.trans h (Below.mono k h.size)
theorem Ext.alloc {a w : World} (h : Ext a w) (o : Obj) : Ext a (w.alloc o) := Below.alloc h h.size o
theorem Ext.get {w w' : World} (h : Ext w w') {b : Nat} {o : Obj} (hb : w.heap[b]? = some o) : w'.heap[b]? = some o := by
  rw [h.block b]
  · exact hb
  · rcases Nat.lt_or_ge b w.heap.size with h | h
    · exact h
    · rw [Array.getElem?_eq_none h] at hb; cases hb
theorem Ext.cell {w w' : World} (h : Ext w w') {a : Addr} {v : Value} (hv : w.cell? a = some v) : w'.cell? a = some v := by
  have hlt : a.block < w.heap.size := by
    rcases Nat.lt_or_ge a.block w.heap.size with h | h
    · exact h
    · unfold World.cell? at hv; rw [Array.getElem?_eq_none h] at hv; cases hv
  rw [Below.cell h hlt]; exact hv
theorem Ext.drew {a w : World} (h : Ext a w) : Ext a w.drew := Below.drew h
theorem setO_other {w : World} {r b : Nat} {o : Obj} (h : b ≠ r) : (setO w r o).heap[b]? = w.heap[b]? := by
  simp only [setO]
  rw [Array.getElem?_setIfInBounds_ne (fun e => h e.symm)]
theorem setO_same {w : World} {r : Nat} {o o' : Obj} (h : w.heap[r]? = some o') : (setO w r o).heap[r]? = some o := by
  have hlt : r < w.heap.size := by
    rcases Nat.lt_or_ge r w.heap.size with h' | h'
    · exact h'
    · rw [Array.getElem?_eq_none h'] at h; cases h
  simp [setO, hlt]
theorem Ext.setO {a w : World} (h : Ext a w) {r : Nat} (hr : a.heap.size ≤ r) (o : Obj) : Ext a (setO w r o) :=
  Below.trans h ⟨rfl, rfl, rfl, by simp [V.setO], fun k hk => setO_other (by omega)⟩
theorem Ext.setCell {a w : World} (h : Ext a w) {p : Addr} (hr : a.heap.size ≤ p.block) (v : Value) : Ext a (w.setCell p v) := Below.setCell h hr v

/-- The blocks of the call's own. -/
structure Mem (w0 w : World) (L : List (Nat × Obj)) : Prop where
  ext : Ext w0 w
  own : ∀ x ∈ L, w0.heap.size ≤ x.1 ∧ w.heap[x.1]? = some x.2
  nodup : (L.map (·.1)).Nodup
section
variable {w0 w w' : World} {L : List (Nat × Obj)}
theorem Mem.nil (w : World) : Mem w w [] := ⟨Ext.refl w, fun _ h => by simp at h, by simp⟩
theorem Mem.lt (h : Mem w0 w L) {b : Nat} {o : Obj} (hx : (b, o) ∈ L) : b < w.heap.size := by
  have := (h.own _ hx).2
  rcases Nat.lt_or_ge b w.heap.size with h' | h'
  · exact h'
  · rw [Array.getElem?_eq_none h'] at this; cases this
theorem Mem.get (h : Mem w0 w L) {b : Nat} {o : Obj} (hx : (b, o) ∈ L) : w.heap[b]? = some o := (h.own _ hx).2
theorem Mem.new (h : Mem w0 w L) {b : Nat} {o : Obj} (hb : b = w.heap.size) (hw : w' = w.alloc o) : Mem w0 w' ((b, o) :: L) := by
  subst hb hw
  refine ⟨h.ext.alloc o, ?_, ?_⟩
  · intro x hx
    rcases List.mem_cons.1 hx with rfl | hx
    · exact ⟨h.ext.size, heap_alloc_new w _⟩
    · exact ⟨(h.own x hx).1, by rw [Below.heap_alloc _ _ _ (h.lt (b := x.1) (o := x.2) hx)]; exact (h.own x hx).2⟩
  · simp only [List.map_cons, List.nodup_cons]
    refine ⟨fun hm => ?_, h.nodup⟩
    obtain ⟨x, hx, e⟩ := List.mem_map.1 hm
    have := h.lt (b := x.1) (o := x.2) hx
    omega
theorem Mem.call (h : Mem w0 w L) (he : Ext w w') : Mem w0 w' L :=
  ⟨h.ext.trans he, fun x hx => ⟨(h.own x hx).1, he.get (h.own x hx).2⟩, h.nodup⟩
theorem Mem.drew (h : Mem w0 w L) : Mem w0 w.drew L := ⟨h.ext.drew, h.own, h.nodup⟩
theorem Mem.set (h : Mem w0 w L) {i b : Nat} {o o' : Obj} (hi : L[i]? = some (b, o)) (hs : Ext w0 w') (hb : w'.heap[b]? = some o')
    (ho : ∀ c, c ≠ b → w'.heap[c]? = w.heap[c]?) : Mem w0 w' (L.set i (b, o')) := by
  have hil : i < L.length := by
    rcases Nat.lt_or_ge i L.length with h' | h'
    · exact h'
    · rw [List.getElem?_eq_none h'] at hi; cases hi
  have hib : L[i] = (b, o) := by rw [List.getElem?_eq_getElem hil] at hi; exact Option.some.inj hi
  have hn : ((L.set i (b, o')).map (·.1)) = L.map (·.1) := by
    rw [List.map_set]
    have : (L.map (·.1))[i]? = some b := by rw [List.getElem?_map, hi]; rfl
    apply List.ext_getElem?
    intro j
    rw [List.getElem?_set]
    split
    · rename_i e; subst e
      rw [this]; simp [hil]
    · rfl
  refine ⟨hs, ?_, by rw [hn]; exact h.nodup⟩
  intro x hx
  rcases List.mem_or_eq_of_mem_set hx with hx' | rfl
  · refine ⟨(h.own x hx').1, ?_⟩
    by_cases e : x.1 = b
    · obtain ⟨j, hj, hje⟩ := List.mem_iff_getElem.1 hx
      by_cases hij : j = i
      · subst hij
        rw [List.getElem_set_self] at hje
        rw [← hje]; exact hb
      · have h1 : (L.map (·.1))[j]'(by simpa using hj) = b := by
          have : (L.set i (b, o'))[j] = L[j]'(by simpa using hj) := List.getElem_set_ne (fun e => hij e.symm) _
          rw [List.getElem_map, ← this, hje, e]
        have h2 : (L.map (·.1))[i]'(by simpa using hil) = b := by rw [List.getElem_map, hib]
        have := (List.getElem_inj h.nodup).1 (h1.trans h2.symm)
        exact absurd this hij
    · rw [ho _ e]; exact (h.own x hx').2
  · exact ⟨(h.own (b, o) (hib ▸ List.getElem_mem hil)).1, hb⟩
theorem Mem.setO (h : Mem w0 w L) {i b : Nat} {o : Obj} (o' : Obj) (hi : L[i]? = some (b, o)) (hw : w' = setO w b o') : Mem w0 w' (L.set i (b, o')) := by
  subst hw
  have hm : (b, o) ∈ L := List.mem_of_getElem? hi
  exact h.set hi (h.ext.setO (h.own _ hm).1 o') (setO_same (h.get hm)) (fun c hc => setO_other hc)
theorem heap_setCell {w : World} {b off : Nat} {v : Value} {cs : Array Value} {t : TypeId} {fr : Nat × Nat} (h : w.heap[b]? = some (.cells cs t fr)) :
    (w.setCell ⟨b, off, none⟩ v).heap[b]? = some (.cells (cs.setIfInBounds off v) t fr) := by
  simp [World.setCell, Array.getElem?_modify, h]
theorem Mem.setCell (h : Mem w0 w L) {i b off : Nat} {v : Value} {cs : Array Value} {t : TypeId} {fr : Nat × Nat} (hi : L[i]? = some (b, .cells cs t fr)) (hw : w' = w.setCell ⟨b, off, none⟩ v) :
    Mem w0 w' (L.set i (b, .cells (cs.setIfInBounds off v) t fr)) := by
  subst hw
  have hm : (b, Obj.cells cs t fr) ∈ L := List.mem_of_getElem? hi
  exact h.set hi (h.ext.setCell (h.own _ hm).1 v) (heap_setCell (h.get hm)) (fun c hc => Below.heap_setCell _ _ _ _ hc)
theorem Mem.sub {L' : List (Nat × Obj)} (h : Mem w0 w L) (hs : L'.Sublist L) : Mem w0 w L' :=
  ⟨h.ext, fun x hx => h.own x (hs.subset hx), (hs.map _).nodup h.nodup⟩
theorem Mem.perm {L' : List (Nat × Obj)} (h : Mem w0 w L) (hs : L'.Perm L) : Mem w0 w L' :=
  ⟨h.ext, fun x hx => h.own x (hs.mem_iff.1 hx), (hs.map _).nodup_iff.2 h.nodup⟩
end

theorem cell_heap {w : World} {b off : Nat} {cs : Array Value} {t : TypeId} {fr : Nat × Nat} (h : w.heap[b]? = some (.cells cs t fr)) : w.cell? ⟨b, off, none⟩ = cs[off]? := by
  simp [World.cell?, h]
theorem LoadV.own {w : World} {b off : Nat} {cs : Array Value} {t : TypeId} {fr : Nat × Nat} {v : Value} {K : Value → Prop} (h : w.heap[b]? = some (.cells cs t fr)) (hv : cs[off]? = some v) (hk : K v) :
    LoadV w b off K := ⟨v, by rw [cell_heap h]; exact hv, hk⟩
theorem LoadV.of {w : World} {b off : Nat} {v : Value} {K : Value → Prop} (h : w.cell? ⟨b, off, none⟩ = some v) (hk : K v) : LoadV w b off K := ⟨v, h, hk⟩
theorem StoreV.own {w : World} {b off : Nat} {cs : Array Value} {t : TypeId} {v : Value} {K : World → Prop} (h : w.heap[b]? = some (.cells cs t (0, 0))) (ho : off < cs.size) (h1 : oneCell v = true)
    (hk : ∀ w', w' = w.setCell ⟨b, off, none⟩ v → K w') : StoreV w b off v K := by
  refine ⟨⟨cs[off], ?_⟩, ?_, h1, hk _ rfl⟩
  · rw [cell_heap h]; exact Array.getElem?_eq_getElem ho
  · simp [World.frozen?, h]
theorem NewV.mem {w0 w : World} {L : List (Nat × Obj)} {o : Obj} {K : Nat → World → Prop} (h : Mem w0 w L) (hk : ∀ b w', Mem w0 w' ((b, o) :: L) → K b w') : NewV w o K :=
  ⟨fun b w' hb hw => hk b w' (h.new hb hw)⟩
theorem NextS.mem {w0 w : World} {L : List (Nat × Obj)} {r pos : Nat} {s : ByteArray} {K : Value → World → Prop} (h : Mem w0 w L) {i : Nat} (hi : L[i]? = some (r, .stringIter s pos))
    (h1 : pos < s.size → ∀ w', Mem w0 w' (L.set i (r, .stringIter s (pos + (Utf8.decode s pos).2))) → K (.tuple #[.bool true, .int .i64 pos, .int .i32 (Utf8.decode s pos).1]) w')
    (h2 : ¬ pos < s.size → K (.tuple #[.bool false]) w) : NextS w r K :=
  ⟨s, pos, h.get (List.mem_of_getElem? hi), fun hp w' hw => h1 hp w' (h.setO _ hi hw), h2⟩

theorem LoadV.mem {w0 w : World} {L : List (Nat × Obj)} {i b off : Nat} {cs : Array Value} {t : TypeId} {fr : Nat × Nat} {v : Value} {K : Value → Prop} (h : Mem w0 w L) (hi : L[i]? = some (b, .cells cs t fr))
    (hv : cs[off]? = some v) (hk : K v) : LoadV w b off K := LoadV.own (h.get (List.mem_of_getElem? hi)) hv hk
theorem LoadA.mem {w0 w : World} {L : List (Nat × Obj)} {i b size : Nat} {cs : Array Value} {t : TypeId} {fr : Nat × Nat} {K : List Value → Prop} (h : Mem w0 w L) (hi : L[i]? = some (b, .cells cs t fr))
    (hs : cs.toList.length = size) (hk : K cs.toList) : LoadA w b 0 size K :=
  ⟨cs.toList, hs, fun j _ => by rw [cell_heap (h.get (List.mem_of_getElem? hi)), Nat.zero_add]; simp, hk⟩
theorem StoreV.mem {w0 w : World} {L : List (Nat × Obj)} {i b off : Nat} {cs : Array Value} {t : TypeId} {v : Value} {K : World → Prop} (h : Mem w0 w L) (hi : L[i]? = some (b, .cells cs t (0, 0)))
    (ho : off < cs.size) (h1 : oneCell v = true) (hk : ∀ w', Mem w0 w' (L.set i (b, .cells (cs.setIfInBounds off v) t (0, 0))) → K w') : StoreV w b off v K :=
  StoreV.own (h.get (List.mem_of_getElem? hi)) ho h1 fun w' hw => hk w' (h.setCell hi hw)

/-! Cells in a row; slices that read as lists. -/
theorem CellsAt.ext {w w' : World} {b off : Nat} {vs : List Value} (h : CellsAt w b off vs) (he : Ext w w') : CellsAt w' b off vs := fun k v hv => he.cell (h k v hv)
theorem LoadV.cells {w : World} {b off : Nat} {vs : List Value} {v : Value} {K : Value → Prop} (h : CellsAt w b off vs) (k : Nat) (hv : vs[k]? = some v) (hk : K v) : LoadV w b (off + k) K := ⟨v, h k v hv, hk⟩
theorem LoadV.cell0 {w : World} {b off : Nat} {v : Value} {vs : List Value} {K : Value → Prop} (h : CellsAt w b off (v :: vs)) (hk : K v) : LoadV w b off K := ⟨v, h 0 v rfl, hk⟩
theorem LoadA.cells {w : World} {b off size : Nat} {vs : List Value} {K : List Value → Prop} (h : CellsAt w b off vs) (hs : vs.length = size) (hk : K vs) : LoadA w b off size K :=
  ⟨vs, hs, fun i hi => by
    have hl : i < vs.length := by omega
    rw [h i vs[i] (List.getElem?_eq_getElem hl), List.getElem?_eq_getElem hl], hk⟩
structure SlAt {α : Type} (enc : α → List Value) (size : Nat) (w : World) (A : Option Addr) (l : List α) : Prop where
  at_ : l ≠ [] → ∃ b off, A = some ⟨b, off, none⟩ ∧ ∀ (j : Nat) x, l[j]? = some x → CellsAt w b (off + j * size) (enc x)
theorem SlAt.ext {α : Type} {enc : α → List Value} {size : Nat} {w w' : World} {A : Option Addr} {l : List α} (h : SlAt enc size w A l) (he : Ext w w') : SlAt enc size w' A l :=
  ⟨fun hn => let ⟨b, off, h1, h2⟩ := h.at_ hn; ⟨b, off, h1, fun j x hx => (h2 j x hx).ext he⟩⟩
theorem ElemV.sl {α : Type} {enc : α → List Value} {size len : Nat} {w : World} {A : Option Addr} {l : List α} {i : Int} {K : Value → Prop} (h : SlAt enc size w A l) (hl : l.length = len) (j : Nat) (e : i = (j : Int)) (hj : j < len)
    (hk : ∀ b off, CellsAt w b off (enc (l[j]'(hl ▸ hj))) → K (.pointer (some ⟨b, off, none⟩))) : ElemV A i len size K := by
  obtain ⟨b, off, h1, h2⟩ := h.at_ (by intro e; subst e; simp at hl; omega)
  exact ⟨b, off, j, h1, e, hj, hk _ _ (h2 j _ (List.getElem?_eq_getElem (hl ▸ hj)))⟩
theorem ElemV.own1 {b len size : Nat} {i : Int} {K : Value → Prop} (j : Nat) (e : i = (j : Int)) (hj : j < len) (hk : K (.pointer (some ⟨b, j, none⟩))) (hs : size = 1 := by rfl) : ElemV (some ⟨b, 0, none⟩) i len size K := by
  subst hs
  exact ⟨b, 0, j, rfl, e, hj, by rw [Nat.mul_one, Nat.zero_add]; exact hk⟩
theorem ElemV.own {b len size : Nat} {i : Int} {K : Value → Prop} (j : Nat) (e : i = (j : Int)) (hj : j < len) (hk : K (.pointer (some ⟨b, j * size, none⟩))) : ElemV (some ⟨b, 0, none⟩) i len size K :=
  ⟨b, 0, j, rfl, e, hj, by rw [Nat.zero_add]; exact hk⟩
def encS (s : ByteArray) : List Value := [.string s]
def encI (n : Int) : List Value := [.int .i64 n]

theorem heap_setRow {w : World} {b : Nat} {cur cs : Array Value} {t : TypeId} (h : w.heap[b]? = some (.cells cur t (0, 0))) : (w.setRow b cs).heap[b]? = some (.cells cs t (0, 0)) :=
  setRow_heap w b cur cs t _ h
theorem heap_setRow_other {w : World} {b c : Nat} {cs : Array Value} (h : c ≠ b) : (w.setRow b cs).heap[c]? = w.heap[c]? := by
  simp only [World.setRow, Array.getElem?_modify]
  rw [if_neg (fun e => h e.symm)]
theorem StoreA.mem {P : Program} {w0 w : World} {L : List (Nat × Obj)} {i b off : Nat} {cur : Array Value} {t : TypeId} {vs : List Value} {K : World → Prop} (h : Mem w0 w L)
    (hi : L[i]? = some (b, .cells cur t (0, 0))) (hl : off + vs.length ≤ cur.size) (h1 : ∀ v ∈ vs, v.oneCell' = true)
    (hk : ∀ w', Mem w0 w' (L.set i (b, .cells (cur.toList.take off ++ vs ++ cur.toList.drop (off + vs.length)).toArray t (0, 0))) → K w') : StoreA P w b off vs K := by
  have hm : (b, Obj.cells cur t (0, 0)) ∈ L := List.mem_of_getElem? hi
  have hg := h.get hm
  have hr := run_storeCells_at P b off t vs 0 cur w hg (by simpa using hl) h1
  simp only [Nat.add_zero] at hr
  refine ⟨_, hr, hk _ ?_⟩
  refine h.set hi ?_ (heap_setRow hg) (fun c hc => heap_setRow_other hc)
  exact Below.trans h.ext ⟨rfl, rfl, rfl, by simp [World.setRow], fun k hk => heap_setRow_other (by have := (h.own _ hm).1; simp only at this; omega)⟩

/-- A slice that the call has made by append, and blocks of its own beside it. -/
structure Rw (w0 w : World) (v : Value) (e : TypeId) (size n : Nat) (xs : List Value) (L : List (Nat × Obj)) : Prop where
  mem : Mem w0 w L
  own : w.ownsRow w0.heap.size e size v n xs
  apart : ∀ x ∈ L, v.ownBlock ≠ some x.1
section
variable {P : Program} {w0 w w' : World} {v : Value} {e : TypeId} {size n : Nat} {xs : List Value} {L : List (Nat × Obj)}
theorem Rw.nil (h : Mem w0 w L) : Rw w0 w (.slice none 0 0) e size 0 [] L := ⟨h, World.ownsRow_nil _ _ _ _, fun _ _ => by simp [Value.ownBlock]⟩
theorem Rw.slice (h : Rw w0 w v e size n xs L) : ∃ A c, v = .slice A n c := by
  rcases h.own.2 with ⟨rfl, rfl⟩ | ⟨g, cap, cur, rfl, _⟩
  · exact ⟨_, _, rfl⟩
  · exact ⟨_, _, rfl⟩
theorem Rw.len (h : Rw w0 w v e size n xs L) : xs.length = n * size := h.own.1
theorem Rw.grown {row : Option Nat} (h : Rw w0 w v e size n xs L) (hg : w.grownBy w' row) (hr : ∀ k, row = some k → w0.heap.size ≤ k ∧ ∀ x ∈ L, x.1 ≠ k) : Mem w0 w' L := by
  refine ⟨Below.grown h.mem.ext hg h.mem.ext.size (fun k hk => (hr k hk).1), fun x hx => ⟨(h.mem.own x hx).1, ?_⟩, h.mem.nodup⟩
  rw [hg.block x.1 (h.mem.lt hx) (fun e => (hr x.1 e.symm).2 x hx rfl)]
  exact (h.mem.own x hx).2
theorem Rw.call (h : Rw w0 w v e size n xs L) (he : Ext w w') : Rw w0 w' v e size n xs L := by
  refine ⟨h.mem.call he, h.own.kept (row := none) ⟨he.os, he.tape, he.output, he.size, fun k hk _ => he.block k hk⟩ ?_, h.apart⟩
  cases v.ownBlock <;> simp
theorem Rw.newBlk (h : Rw w0 w v e size n xs L) {b : Nat} {o : Obj} (hb : b = w.heap.size) (hw : w' = w.alloc o) : Rw w0 w' v e size n xs ((b, o) :: L) := by
  have hx : Ext w w' := by rw [hw]; exact (Ext.refl w).alloc o
  refine ⟨h.mem.new hb hw, (h.call hx).own, fun x hx => ?_⟩
  rcases List.mem_cons.1 hx with rfl | hx
  · intro e
    have := h.own.lt _ e
    simp only at this; omega
  · exact h.apart x hx
theorem AppV.rw {t ty : TypeId} {i : TypeInfo} {z : Value} {A : Option Addr} {m c : Nat} {news : List Value} {K : Value → World → Prop} (ht : P.underlying t = some (.slice e)) (hi : P.info? e = some i) (hz : i.zero = some z)
    (hsize : i.size = size) (hzs : z.cells.size = size) (hsz : 0 < size) (h : Rw w0 w v e size n xs L) (hl : news.length = m * size)
    (hA : news ≠ [] → ∃ b off, A = some ⟨b, off, none⟩ ∧ CellsAt w b off news) (h1 : ∀ u ∈ news, u.oneCell' = true) (hb : (n + m) * i.bytes ≤ 140737488355328) (h63 : n + m ≤ 140737488355328)
    (hk : ∀ A' c' w', Rw w0 w' (.slice A' (n + m) c') e size (n + m) (xs ++ news) L → K (.slice A' (n + m) c') w') : AppV P #[t, t] ty v (.slice A m c) w K := by
  cases A with
  | none =>
    have hn : news = [] := by
      cases hnn : news with
      | nil => rfl
      | cons x r => obtain ⟨b, off, h0, _⟩ := hA (by rw [hnn]; simp); cases h0
    subst hn
    have hm : m = 0 := by
      rcases Nat.mul_eq_zero.1 (show m * size = 0 by simpa using hl.symm) with h | h
      · exact h
      · omega
    subst hm
    obtain ⟨A', c', rfl⟩ := h.slice
    refine ⟨_, w, ?_, hk A' c' w (by simpa using h)⟩
    rcases h.own.2 with ⟨e1, e2⟩ | ⟨g, cap, cur, e1, _, _, hnc, _⟩
    · cases e1; simp [Builtin.append_, run_underlying ht, sizeOf, typeInfo, hi, Builtin.lenOf, Builtin.firstCells]
    · cases e1; simp [Builtin.append_, run_underlying ht, sizeOf, typeInfo, hi, Builtin.lenOf, Builtin.firstCells, hnc, storeCells]
  | some a =>
    have hcells : ∀ j u, news[j]? = some u → w.cell? (a.add j) = some u := by
      intro j u hu
      obtain ⟨b, off, h0, h1⟩ := hA (by intro e; rw [e] at hu; simp at hu)
      cases h0
      rw [add_plain]; exact h1 j u hu
    obtain ⟨v', w', hrun, h2, h3, _, h5⟩ := run_append_own_at (P := P) w w0.heap.size t ty e i z size i.bytes ht hi hz hsize rfl hzs hsz v n xs h.own a m c news hl hcells h1 (by simp only [maxLen]; omega) hb h.mem.ext.size
    have hR : Rw w0 w' v' e size (n + m) (xs ++ news) L := by
      refine ⟨h.grown h3 (fun k hk => ⟨(h.own.lt k hk).1, fun x hx e => h.apart x hx (by rw [hk, e])⟩), h2, fun x hx => ?_⟩
      rcases h5 with h5 | h5 <;> rw [h5]
      · exact h.apart x hx
      · intro e
        have := h.mem.lt (b := x.1) (o := x.2) hx
        simp only [Option.some.injEq] at e; omega
    obtain ⟨A', c', rfl⟩ := hR.slice
    exact ⟨_, w', hrun, hk A' c' w' hR⟩
end

end V
end Go.Proofs.YtajgbepghniciaaGreatDoor
