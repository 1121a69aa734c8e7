/- Lemmas and contracts of functions on the way to the law's card (part 2 of 17). -/
import Derived.Test.YtajgbepghniciaaGreatDoorJC1
import Derived.Maps.AppendAt
import Derived.Lib.AppendStr
import Derived.WideKeyArgs
import Derived.ChangeSame
import Derived.ChangeVars
import Derived.RowKit
import Derived.OpenShut
import Derived.Deep.Strs
import Derived.Shelf.Strings.Builder1
import Derived.Shelf.Strings.Builder2
import Derived.Shelf.Strings.OnBuilder
import Derived.Shelf.Small.Utf8
import Derived.Shelf.Small.Strs
import Derived.Shelf.Strings.BuilderF
import Derived.Shelf.Strings.BuilderK
import Derived.Shelf.Strings.Search1
import Derived.Shelf.Strings.Search2
import Derived.Shelf.Strings.Search3
import Derived.Shelf.Strings.Cut
import Derived.Shelf.Strings.Count
import Derived.Shelf.LaysM
import Derived.Shelf.Strings.Shaped
import Derived.Shelf.Strings.Runes
import Derived.Shelf.Unicode.DecodeSlow
import Derived.Shelf.Slices.Turned
import Derived.Test.YtajgbepghniciaaGreatDoorProg
namespace Go.Proofs.YtajgbepghniciaaGreatDoor
open Go.RowKit
namespace V

/-- All that was there is as it was. -/
def Ext (w w' : World) : Prop := Below w.heap.size w w'
theorem Ext.refl (w : World) : Ext w w := Below.refl _ _
theorem Ext.trans {a b c : World} (h : Ext a b) (k : Ext b c) : Ext a c := Below.trans h (Below.mono k h.size)
theorem Ext.alloc {a w : World} (h : Ext a w) (o : Obj) : Ext a (w.alloc o) := Below.alloc h h.size o
theorem Ext.get {w w' : World} (h : Ext w w') {b : Nat} {o : Obj} (hb : w.heap[b]? = some o) : w'.heap[b]? = some o := by
  rw [h.block b]
  · exact hb
  · rcases Nat.lt_or_ge b w.heap.size with h | h
    · exact h
    · rw [Array.getElem?_eq_none h] at hb; cases hb
theorem Ext.cell {w w' : World} (h : Ext w w') {a : Addr} {v : Value} (hv : w.cell? a = some v) : w'.cell? a = some v := by
  have hlt : a.block < w.heap.size := by
    rcases Nat.lt_or_ge a.block w.heap.size with h | h
    · exact h
    · unfold World.cell? at hv; rw [Array.getElem?_eq_none h] at hv; cases hv
  rw [Below.cell h hlt]; exact hv
theorem Ext.drew {a w : World} (h : Ext a w) : Ext a w.drew := Below.drew h
theorem setO_other {w : World} {r b : Nat} {o : Obj} (h : b ≠ r) : (setO w r o).heap[b]? = w.heap[b]? := by
  simp only [setO]
  rw [Array.getElem?_setIfInBounds_ne (fun e => h e.symm)]
theorem setO_same {w : World} {r : Nat} {o o' : Obj} (h : w.heap[r]? = some o') : (setO w r o).heap[r]? = some o := by
  have hlt : r < w.heap.size := by
    rcases Nat.lt_or_ge r w.heap.size with h' | h'
    · exact h'
    · rw [Array.getElem?_eq_none h'] at h; cases h
  simp [setO, hlt]
theorem Ext.setO {a w : World} (h : Ext a w) {r : Nat} (hr : a.heap.size ≤ r) (o : Obj) : Ext a (setO w r o) :=
  Below.trans h ⟨rfl, rfl, rfl, by simp [V.setO], fun k hk => setO_other (by omega)⟩
theorem Ext.setCell {a w : World} (h : Ext a w) {p : Addr} (hr : a.heap.size ≤ p.block) (v : Value) : Ext a (w.setCell p v) := Below.setCell h hr v

/-- The blocks of the call's own. -/
structure Mem (w0 w : World) (L : List (Nat × Obj)) : Prop where
  ext : Ext w0 w
  own : ∀ x ∈ L, w0.heap.size ≤ x.1 ∧ w.heap[x.1]? = some x.2
  nodup : (L.map (·.1)).Nodup
section
variable {w0 w w' : World} {L : List (Nat × Obj)}
theorem Mem.nil (w : World) : Mem w w [] := ⟨Ext.refl w, fun _ h => by simp at h, by simp⟩
theorem Mem.lt (h : Mem w0 w L) {b : Nat} {o : Obj} (hx : (b, o) ∈ L) : b < w.heap.size := by
  have := (h.own _ hx).2
  rcases Nat.lt_or_ge b w.heap.size with h' | h'
  · exact h'
  · rw [Array.getElem?_eq_none h'] at this; cases this
theorem Mem.get (h : Mem w0 w L) {b : Nat} {o : Obj} (hx : (b, o) ∈ L) : w.heap[b]? = some o := (h.own _ hx).2
theorem Mem.new (h : Mem w0 w L) {b : Nat} {o : Obj} (hb : b = w.heap.size) (hw : w' = w.alloc o) : Mem w0 w' ((b, o) :: L) := by
  subst hb hw
  refine ⟨h.ext.alloc o, ?_, ?_⟩
  · intro x hx
    rcases List.mem_cons.1 hx with rfl | hx
    · exact ⟨h.ext.size, heap_alloc_new w _⟩
    · exact ⟨(h.own x hx).1, by rw [Below.heap_alloc _ _ _ (h.lt (b := x.1) (o := x.2) hx)]; exact (h.own x hx).2⟩
  · simp only [List.map_cons, List.nodup_cons]
    refine ⟨fun hm => ?_, h.nodup⟩
    obtain ⟨x, hx, e⟩ := List.mem_map.1 hm
    have := h.lt (b := x.1) (o := x.2) hx
    omega
theorem Mem.call (h : Mem w0 w L) (he : Ext w w') : Mem w0 w' L :=
  ⟨h.ext.trans he, fun x hx => ⟨(h.own x hx).1, he.get (h.own x hx).2⟩, h.nodup⟩
theorem Mem.drew (h : Mem w0 w L) : Mem w0 w.drew L := ⟨h.ext.drew, h.own, h.nodup⟩
theorem Mem.set (h : Mem w0 w L) {i b : Nat} {o o' : Obj} (hi : L[i]? = some (b, o)) (hs : Ext w0 w') (hb : w'.heap[b]? = some o')
    (ho : ∀ c, c ≠ b → w'.heap[c]? = w.heap[c]?) : Mem w0 w' (L.set i (b, o')) := by
  have hil : i < L.length := by
    rcases Nat.lt_or_ge i L.length with h' | h'
    · exact h'
    · rw [List.getElem?_eq_none h'] at hi; cases hi
  have hib : L[i] = (b, o) := by rw [List.getElem?_eq_getElem hil] at hi; exact Option.some.inj hi
  have hn : ((L.set i (b, o')).map (·.1)) = L.map (·.1) := by
    rw [List.map_set]
    have : (L.map (·.1))[i]? = some b := by rw [List.getElem?_map, hi]; rfl
    apply List.ext_getElem?
    intro j
    rw [List.getElem?_set]
    split
    · rename_i e; subst e
      rw [this]; simp [hil]
    · rfl
  refine ⟨hs, ?_, by rw [hn]; exact h.nodup⟩
  intro x hx
  rcases List.mem_or_eq_of_mem_set hx with hx' | rfl
  · refine ⟨(h.own x hx').1, ?_⟩
    by_cases e : x.1 = b
    · obtain ⟨j, hj, hje⟩ := List.mem_iff_getElem.1 hx
      by_cases hij : j = i
      · subst hij
        rw [List.getElem_set_self] at hje
        rw [← hje]; exact hb
      · have h1 : (L.map (·.1))[j]'(by simpa using hj) = b := by
          have : (L.set i (b, o'))[j] = L[j]'(by simpa using hj) := List.getElem_set_ne (fun e => hij e.symm) _
          rw [List.getElem_map, ← this, hje, e]
        have h2 : (L.map (·.1))[i]'(by simpa using hil) = b := by rw [List.getElem_map, hib]
        have := (List.getElem_inj h.nodup).1 (h1.trans h2.symm)
        exact absurd this hij
    · rw [ho _ e]; exact (h.own x hx').2
  · exact ⟨(h.own (b, o) (hib ▸ List.getElem_mem hil)).1, hb⟩
theorem Mem.setO (h : Mem w0 w L) {i b : Nat} {o : Obj} (o' : Obj) (hi : L[i]? = some (b, o)) (hw : w' = setO w b o') : Mem w0 w' (L.set i (b, o')) := by
  subst hw
  have hm : (b, o) ∈ L := List.mem_of_getElem? hi
  exact h.set hi (h.ext.setO (h.own _ hm).1 o') (setO_same (h.get hm)) (fun c hc => setO_other hc)
theorem heap_setCell {w : World} {b off : Nat} {v : Value} {cs : Array Value} {t : TypeId} {fr : Nat × Nat} (h : w.heap[b]? = some (.cells cs t fr)) :
    (w.setCell ⟨b, off, none⟩ v).heap[b]? = some (.cells (cs.setIfInBounds off v) t fr) := by
  simp [World.setCell, Array.getElem?_modify, h]
theorem Mem.setCell (h : Mem w0 w L) {i b off : Nat} {v : Value} {cs : Array Value} {t : TypeId} {fr : Nat × Nat} (hi : L[i]? = some (b, .cells cs t fr)) (hw : w' = w.setCell ⟨b, off, none⟩ v) :
    Mem w0 w' (L.set i (b, .cells (cs.setIfInBounds off v) t fr)) := by
  subst hw
  have hm : (b, Obj.cells cs t fr) ∈ L := List.mem_of_getElem? hi
  exact h.set hi (h.ext.setCell (h.own _ hm).1 v) (heap_setCell (h.get hm)) (fun c hc => Below.heap_setCell _ _ _ _ hc)
theorem Mem.sub {L' : List (Nat × Obj)} (h : Mem w0 w L) (hs : L'.Sublist L) : Mem w0 w L' :=
  ⟨h.ext, fun x hx => h.own x (hs.subset hx), (hs.map _).nodup h.nodup⟩
end

theorem cell_heap {w : World} {b off : Nat} {cs : Array Value} {t : TypeId} {fr : Nat × Nat} (h : w.heap[b]? = some (.cells cs t fr)) : w.cell? ⟨b, off, none⟩ = cs[off]? := by
  simp [World.cell?, h]
theorem LoadV.own {w : World} {b off : Nat} {cs : Array Value} {t : TypeId} {fr : Nat × Nat} {v : Value} {K : Value → Prop} (h : w.heap[b]? = some (.cells cs t fr)) (hv : cs[off]? = some v) (hk : K v) :
    LoadV w b off K := ⟨v, by rw [cell_heap h]; exact hv, hk⟩
theorem LoadV.of {w : World} {b off : Nat} {v : Value} {K : Value → Prop} (h : w.cell? ⟨b, off, none⟩ = some v) (hk : K v) : LoadV w b off K := ⟨v, h, hk⟩
theorem StoreV.own {w : World} {b off : Nat} {cs : Array Value} {t : TypeId} {v : Value} {K : World → Prop} (h : w.heap[b]? = some (.cells cs t (0, 0))) (ho : off < cs.size) (h1 : oneCell v = true)
    (hk : ∀ w', w' = w.setCell ⟨b, off, none⟩ v → K w') : StoreV w b off v K := by
  refine ⟨⟨cs[off], ?_⟩, ?_, h1, hk _ rfl⟩
  · rw [cell_heap h]; exact Array.getElem?_eq_getElem ho
  · simp [World.frozen?, h]
theorem NewV.mem {w0 w : World} {L : List (Nat × Obj)} {o : Obj} {K : Nat → World → Prop} (h : Mem w0 w L) (hk : ∀ b w', Mem w0 w' ((b, o) :: L) → K b w') : NewV w o K :=
  ⟨fun b w' hb hw => hk b w' (h.new hb hw)⟩
theorem NextS.mem {w0 w : World} {L : List (Nat × Obj)} {r pos : Nat} {s : ByteArray} {K : Value → World → Prop} (h : Mem w0 w L) {i : Nat} (hi : L[i]? = some (r, .stringIter s pos))
    (h1 : pos < s.size → ∀ w', Mem w0 w' (L.set i (r, .stringIter s (pos + (Utf8.decode s pos).2))) → K (.tuple #[.bool true, .int .i64 pos, .int .i32 (Utf8.decode s pos).1]) w')
    (h2 : ¬ pos < s.size → K (.tuple #[.bool false]) w) : NextS w r K :=
  ⟨s, pos, h.get (List.mem_of_getElem? hi), fun hp w' hw => h1 hp w' (h.setO _ hi hw), h2⟩

theorem LoadV.mem {w0 w : World} {L : List (Nat × Obj)} {i b off : Nat} {cs : Array Value} {t : TypeId} {fr : Nat × Nat} {v : Value} {K : Value → Prop} (h : Mem w0 w L) (hi : L[i]? = some (b, .cells cs t fr))
    (hv : cs[off]? = some v) (hk : K v) : LoadV w b off K := LoadV.own (h.get (List.mem_of_getElem? hi)) hv hk
theorem LoadA.mem {w0 w : World} {L : List (Nat × Obj)} {i b size : Nat} {cs : Array Value} {t : TypeId} {fr : Nat × Nat} {K : List Value → Prop} (h : Mem w0 w L) (hi : L[i]? = some (b, .cells cs t fr))
    (hs : cs.toList.length = size) (hk : K cs.toList) : LoadA w b 0 size K :=
  ⟨cs.toList, hs, fun j _ => by rw [cell_heap (h.get (List.mem_of_getElem? hi)), Nat.zero_add]; simp, hk⟩
theorem StoreV.mem {w0 w : World} {L : List (Nat × Obj)} {i b off : Nat} {cs : Array Value} {t : TypeId} {v : Value} {K : World → Prop} (h : Mem w0 w L) (hi : L[i]? = some (b, .cells cs t (0, 0)))
    (ho : off < cs.size) (h1 : oneCell v = true) (hk : ∀ w', Mem w0 w' (L.set i (b, .cells (cs.setIfInBounds off v) t (0, 0))) → K w') : StoreV w b off v K :=
  StoreV.own (h.get (List.mem_of_getElem? hi)) ho h1 fun w' hw => hk w' (h.setCell hi hw)

theorem CellsAt.ext {w w' : World} {b off : Nat} {vs : List Value} (h : CellsAt w b off vs) (he : Ext w w') : CellsAt w' b off vs := fun k v hv => he.cell (h k v hv)
theorem LoadV.cells {w : World} {b off : Nat} {vs : List Value} {v : Value} {K : Value → Prop} (h : CellsAt w b off vs) (k : Nat) (hv : vs[k]? = some v) (hk : K v) : LoadV w b (off + k) K := ⟨v, h k v hv, hk⟩
theorem LoadV.cell0 {w : World} {b off : Nat} {v : Value} {vs : List Value} {K : Value → Prop} (h : CellsAt w b off (v :: vs)) (hk : K v) : LoadV w b off K := ⟨v, h 0 v rfl, hk⟩
theorem LoadA.cells {w : World} {b off size : Nat} {vs : List Value} {K : List Value → Prop} (h : CellsAt w b off vs) (hs : vs.length = size) (hk : K vs) : LoadA w b off size K :=
  ⟨vs, hs, fun i hi => by
    have hl : i < vs.length := by omega
    rw [h i vs[i] (List.getElem?_eq_getElem hl), List.getElem?_eq_getElem hl], hk⟩
structure SlAt {α : Type} (enc : α → List Value) (size : Nat) (w : World) (A : Option Addr) (l : List α) : Prop where
  at_ : l ≠ [] → ∃ b off, A = some ⟨b, off, none⟩ ∧ ∀ (j : Nat) x, l[j]? = some x → CellsAt w b (off + j * size) (enc x)
theorem SlAt.ext {α : Type} {enc : α → List Value} {size : Nat} {w w' : World} {A : Option Addr} {l : List α} (h : SlAt enc size w A l) (he : Ext w w') : SlAt enc size w' A l :=
  ⟨fun hn => let ⟨b, off, h1, h2⟩ := h.at_ hn; ⟨b, off, h1, fun j x hx => (h2 j x hx).ext he⟩⟩
theorem ElemV.sl {α : Type} {enc : α → List Value} {size len : Nat} {w : World} {A : Option Addr} {l : List α} {i : Int} {K : Value → Prop} (h : SlAt enc size w A l) (hl : l.length = len) (j : Nat) (e : i = (j : Int)) (hj : j < len)
    (hk : ∀ b off, CellsAt w b off (enc (l[j]'(hl ▸ hj))) → K (.pointer (some ⟨b, off, none⟩))) : ElemV A i len size K := by
  obtain ⟨b, off, h1, h2⟩ := h.at_ (by intro e; subst e; simp at hl; omega)
  exact ⟨b, off, j, h1, e, hj, hk _ _ (h2 j _ (List.getElem?_eq_getElem (hl ▸ hj)))⟩
theorem ElemV.own1 {b len size : Nat} {i : Int} {K : Value → Prop} (j : Nat) (e : i = (j : Int)) (hj : j < len) (hk : K (.pointer (some ⟨b, j, none⟩))) (hs : size = 1 := by rfl) : ElemV (some ⟨b, 0, none⟩) i len size K := by
  subst hs
  exact ⟨b, 0, j, rfl, e, hj, by rw [Nat.mul_one, Nat.zero_add]; exact hk⟩
def encS (s : ByteArray) : List Value := [.string s]
def encI (n : Int) : List Value := [.int .i64 n]

theorem heap_setRow {w : World} {b : Nat} {cur cs : Array Value} {t : TypeId} (h : w.heap[b]? = some (.cells cur t (0, 0))) : (w.setRow b cs).heap[b]? = some (.cells cs t (0, 0)) :=
  setRow_heap w b cur cs t _ h
theorem heap_setRow_other {w : World} {b c : Nat} {cs : Array Value} (h : c ≠ b) : (w.setRow b cs).heap[c]? = w.heap[c]? := by
  simp only [World.setRow, Array.getElem?_modify]
  rw [if_neg (fun e => h e.symm)]
theorem StoreA.mem {P : Program} {w0 w : World} {L : List (Nat × Obj)} {i b off : Nat} {cur : Array Value} {t : TypeId} {vs : List Value} {K : World → Prop} (h : Mem w0 w L)
    (hi : L[i]? = some (b, .cells cur t (0, 0))) (hl : off + vs.length ≤ cur.size) (h1 : ∀ v ∈ vs, v.oneCell' = true)
    (hk : ∀ w', Mem w0 w' (L.set i (b, .cells (cur.toList.take off ++ vs ++ cur.toList.drop (off + vs.length)).toArray t (0, 0))) → K w') : StoreA P w b off vs K := by
  have hm : (b, Obj.cells cur t (0, 0)) ∈ L := List.mem_of_getElem? hi
  have hg := h.get hm
  have hr := run_storeCells_at P b off t vs 0 cur w hg (by simpa using hl) h1
  simp only [Nat.add_zero] at hr
  refine ⟨_, hr, hk _ ?_⟩
  refine h.set hi ?_ (heap_setRow hg) (fun c hc => heap_setRow_other hc)
  exact Below.trans h.ext ⟨rfl, rfl, rfl, by simp [World.setRow], fun k hk => heap_setRow_other (by have := (h.own _ hm).1; simp only at this; omega)⟩

/-- A slice that the call has made by append, and blocks of its own beside it. -/
structure Rw (w0 w : World) (v : Value) (e : TypeId) (size n : Nat) (xs : List Value) (L : List (Nat × Obj)) : Prop where
  mem : Mem w0 w L
  own : w.ownsRow w0.heap.size e size v n xs
  apart : ∀ x ∈ L, v.ownBlock ≠ some x.1
section
variable {P : Program} {w0 w w' : World} {v : Value} {e : TypeId} {size n : Nat} {xs : List Value} {L : List (Nat × Obj)}
theorem Rw.nil (h : Mem w0 w L) : Rw w0 w (.slice none 0 0) e size 0 [] L := ⟨h, World.ownsRow_nil _ _ _ _, fun _ _ => by simp [Value.ownBlock]⟩
theorem Rw.slice (h : Rw w0 w v e size n xs L) : ∃ A c, v = .slice A n c := by
  rcases h.own.2 with ⟨rfl, rfl⟩ | ⟨g, cap, cur, rfl, _⟩
  · exact ⟨_, _, rfl⟩
  · exact ⟨_, _, rfl⟩
theorem Rw.len (h : Rw w0 w v e size n xs L) : xs.length = n * size := h.own.1
theorem Rw.grown {row : Option Nat} (h : Rw w0 w v e size n xs L) (hg : w.grownBy w' row) (hr : ∀ k, row = some k → w0.heap.size ≤ k ∧ ∀ x ∈ L, x.1 ≠ k) : Mem w0 w' L := by
  refine ⟨Below.grown h.mem.ext hg h.mem.ext.size (fun k hk => (hr k hk).1), fun x hx => ⟨(h.mem.own x hx).1, ?_⟩, h.mem.nodup⟩
  rw [hg.block x.1 (h.mem.lt hx) (fun e => (hr x.1 e.symm).2 x hx rfl)]
  exact (h.mem.own x hx).2
theorem Rw.call (h : Rw w0 w v e size n xs L) (he : Ext w w') : Rw w0 w' v e size n xs L := by
  refine ⟨h.mem.call he, h.own.kept (row := none) ⟨he.os, he.tape, he.output, he.size, fun k hk _ => he.block k hk⟩ ?_, h.apart⟩
  cases v.ownBlock <;> simp
theorem Rw.newBlk (h : Rw w0 w v e size n xs L) {b : Nat} {o : Obj} (hb : b = w.heap.size) (hw : w' = w.alloc o) : Rw w0 w' v e size n xs ((b, o) :: L) := by
  have hx : Ext w w' := by rw [hw]; exact (Ext.refl w).alloc o
  refine ⟨h.mem.new hb hw, (h.call hx).own, fun x hx => ?_⟩
  rcases List.mem_cons.1 hx with rfl | hx
  · intro e
    have := h.own.lt _ e
    simp only at this; omega
  · exact h.apart x hx
theorem AppV.rw {t ty : TypeId} {i : TypeInfo} {z : Value} {A : Option Addr} {m c : Nat} {news : List Value} {K : Value → World → Prop} (ht : P.underlying t = some (.slice e)) (hi : P.info? e = some i) (hz : i.zero = some z)
    (hsize : i.size = size) (hzs : z.cells.size = size) (hsz : 0 < size) (h : Rw w0 w v e size n xs L) (hl : news.length = m * size)
    (hA : news ≠ [] → ∃ b off, A = some ⟨b, off, none⟩ ∧ CellsAt w b off news) (h1 : ∀ u ∈ news, u.oneCell' = true) (hb : (n + m) * i.bytes ≤ 140737488355328) (h63 : n + m ≤ 140737488355328)
    (hk : ∀ A' c' w', Rw w0 w' (.slice A' (n + m) c') e size (n + m) (xs ++ news) L → K (.slice A' (n + m) c') w') : AppV P #[t, t] ty v (.slice A m c) w K := by
  cases A with
  | none =>
    have hn : news = [] := by
      cases hnn : news with
      | nil => rfl
      | cons x r => obtain ⟨b, off, h0, _⟩ := hA (by rw [hnn]; simp); cases h0
    subst hn
    have hm : m = 0 := by
      rcases Nat.mul_eq_zero.1 (show m * size = 0 by simpa using hl.symm) with h | h
      · exact h
      · omega
    subst hm
    obtain ⟨A', c', rfl⟩ := h.slice
    refine ⟨_, w, ?_, hk A' c' w (by simpa using h)⟩
    rcases h.own.2 with ⟨e1, e2⟩ | ⟨g, cap, cur, e1, _, _, hnc, _⟩
    · cases e1; simp [Builtin.append_, run_underlying ht, sizeOf, typeInfo, hi, Builtin.lenOf, Builtin.firstCells]
    · cases e1; simp [Builtin.append_, run_underlying ht, sizeOf, typeInfo, hi, Builtin.lenOf, Builtin.firstCells, hnc, storeCells]
  | some a =>
    have hcells : ∀ j u, news[j]? = some u → w.cell? (a.add j) = some u := by
      intro j u hu
      obtain ⟨b, off, h0, h1⟩ := hA (by intro e; rw [e] at hu; simp at hu)
      cases h0
      rw [add_plain]; exact h1 j u hu
    obtain ⟨v', w', hrun, h2, h3, _, h5⟩ := run_append_own_at (P := P) w w0.heap.size t ty e i z size i.bytes ht hi hz hsize rfl hzs hsz v n xs h.own a m c news hl hcells h1 (by simp only [maxLen]; omega) hb h.mem.ext.size
    have hR : Rw w0 w' v' e size (n + m) (xs ++ news) L := by
      refine ⟨h.grown h3 (fun k hk => ⟨(h.own.lt k hk).1, fun x hx e => h.apart x hx (by rw [hk, e])⟩), h2, fun x hx => ?_⟩
      rcases h5 with h5 | h5 <;> rw [h5]
      · exact h.apart x hx
      · intro e
        have := h.mem.lt (b := x.1) (o := x.2) hx
        simp only [Option.some.injEq] at e; omega
    obtain ⟨A', c', rfl⟩ := hR.slice
    exact ⟨_, w', hrun, hk A' c' w' hR⟩
end

end V
end Go.Proofs.YtajgbepghniciaaGreatDoor
namespace Go.Proofs.YtajgbepghniciaaGreatDoor
open Go.ChangeShapes Go.WideShapes Go.RowKit
namespace V
section
variable {H : Type} {enc : TypeId × Value → H} {P : Program}
theorem trodAll_stays (hl : laidOutB P = true) {base : Nat} {W W' : World} {sp' : Nat → Bool} : ∀ {ts : List TypeId} {vs : List Value} {ds : List (DataW H)} {ps : List MemPlace},
    (∀ t ∈ ts, P.readableRec t = true ∧ t < P.types.size) → DataW.TrodAll enc P W base (fun _ => true) true ts vs ds ps → (∀ p ∈ ps, W.sameAt W' p) → (∀ p ∈ ps, sp' p.block = true) →
    DataW.TrodAll enc P W' base sp' true ts vs ds ps
  | [], _, _, _, _, h, _, _ => by
    obtain ⟨rfl, rfl, rfl⟩ := trodAll_nil h
    exact trodAll_mk0
  | t :: ts, _, _, _, hr, h, h1, h2 => by
    obtain ⟨v, vs, d, ds, p, q, rfl, rfl, rfl, ha, hb⟩ := trodAll_cons h
    obtain ⟨r1, r2⟩ := hr t (List.mem_cons_self ..)
    exact ⟨p, q, WideElems.Trod_stays hl r1 r2 ha (fun x hx => h1 x (List.mem_append_left _ hx)) (fun x hx => h2 x (List.mem_append_left _ hx)),
      trodAll_stays hl (fun t ht => hr t (List.mem_cons_of_mem _ ht)) hb (fun x hx => h1 x (List.mem_append_right _ hx)) (fun x hx => h2 x (List.mem_append_right _ hx)), rfl⟩
theorem post_of_ext {f : Func} {s : ChangeSpec} {apart fresh handsOn again : Bool} {W W' : World} {args : Array Value} {v : Value} {ds gs : List (DataW H)} {before pa pv : List MemPlace}
    (hW : DataW.Whole enc P f.params.toList s.vars apart W args.toList ds gs before)
    (hres : ∀ (b : Nat) (sp : Nat → Bool) (hd : Bool), DataW.TrodAll enc P W' b sp hd f.resultTypes.toList (v.resultList f.resultTypes.size) (s.fn H (ds ++ gs)).results [])
    (hargs : ∀ sp : Nat → Bool, (∀ p ∈ before, sp p.block = true) → DataW.TrodAll enc P W' 0 sp true f.params.toList args.toList (s.fn H (ds ++ gs)).args pa)
    (hvars : ∀ sp : Nat → Bool, (∀ p ∈ before, sp p.block = true) → DataW.TrodVars enc P W' sp s.vars (s.fn H (ds ++ gs)).vars pv)
    (hps : before = pa ++ pv) (he : Ext W W')
    (hok : ∀ (j : Nat) (t : TypeId) (r : Value), f.resultTypes[j]? = some t → (v.resultList f.resultTypes.size)[j]? = some r → Value.okWide P W' .any 0 t r) :
    s.post enc P f apart fresh handsOn again W args v W' := by
  have hlt := hW.lt
  have hold : ∀ p ∈ before, (fun b => decide (b < W.heap.size)) p.block = true := fun p hp => by simpa using hlt p hp
  refine ⟨ds, gs, before, [], pa, pv, hW, hres _ _ _, hargs _ hold, hvars _ hold, Below.frame he _, fun _ => ?_⟩
  obtain ⟨_, _, _, _, _, hz, hn⟩ := hW
  refine ⟨hok, _, _, ([] ++ pa) ++ pv, ⟨[] ++ pa, pv, trodAll_append (hargs _ (fun _ _ => rfl)) (hres _ _ _), hvars _ (fun _ _ => rfl), rfl, ?_, ?_⟩, ?_⟩
  · intro b off hp
    have hp' : MemPlace.cell b off ∈ before := by rw [hps]; simpa using hp
    rw [Below.frozen he (show (⟨b, off, none⟩ : Addr).block < W.heap.size from hlt _ hp')]
    exact hz b off hp'
  · intro ha
    have := hn ha
    rw [hps] at this
    simpa using this
  · intro p hp _
    rw [hps]
    simpa using hp
/-- .. and looks at no variable -/
theorem post_ext {f : Func} {s : ChangeSpec} {apart fresh handsOn again : Bool} {W W' : World} {args : Array Value} {v : Value} {ds gs : List (DataW H)} {before : List MemPlace} (hl : laidOutB P = true) (hr : ∀ t ∈ f.params.toList, P.readableRec t = true ∧ t < P.types.size)
    (hW : DataW.Whole enc P f.params.toList s.vars apart W args.toList ds gs before) (hv : s.vars = [])
    (hres : ∀ (b : Nat) (sp : Nat → Bool) (hd : Bool), DataW.TrodAll enc P W' b sp hd f.resultTypes.toList (v.resultList f.resultTypes.size) (s.fn H ds).results [])
    (hargs : (s.fn H ds).args = ds) (hvars : (s.fn H ds).vars = []) (he : Ext W W')
    (hok : ∀ (j : Nat) (t : TypeId) (r : Value), f.resultTypes[j]? = some t → (v.resultList f.resultTypes.size)[j]? = some r → Value.okWide P W' .any 0 t r) :
    s.post enc P f apart fresh handsOn again W args v W' := by
  have hlt := hW.lt
  have hW0 := hW
  obtain ⟨p, q, hA, hV, hpq, _, _⟩ := hW
  rw [hv] at hV
  obtain ⟨rfl, rfl⟩ := trodVars_none hV
  rw [List.append_nil] at hpq
  subst hpq
  refine post_of_ext (pa := before) (pv := []) hW0 ?_ ?_ ?_ (by simp) he hok
  · rw [List.append_nil]; exact hres
  · rw [List.append_nil, hargs]
    exact fun sp hsp => trodAll_stays hl hr hA (fun x hx => Below.same he (hlt x hx)) hsp
  · rw [List.append_nil, hvars, hv]
    exact fun _ _ => rfl
section
variable {w : World} {t : TypeId}
theorem spot_none {w : World} {a : Addr} {v : Value} (h : w.cell? a = some v) : a = ⟨a.block, a.off, none⟩ := by
  obtain ⟨b, o, s⟩ := a
  cases s with
  | none => rfl
  | some s =>
    exfalso
    unfold World.cell? at h
    simp at h
    split at h <;> simp_all
end
end
end V
end Go.Proofs.YtajgbepghniciaaGreatDoor
namespace Go.Proofs.YtajgbepghniciaaGreatDoor
open Go.RowKit V
set_option maxRecDepth 100000

def scalarB (r : Int) : Bool := decide (0 ≤ r ∧ r ≤ 1114111 ∧ (r < 55296 ∨ 57343 < r))
theorem scalarB_iff (r : Int) (b : Bool) : b = scalarB r ↔ (b = true ↔ (0 ≤ r ∧ r ≤ 1114111 ∧ (r < 55296 ∨ 57343 < r))) := by
  unfold scalarB; rw [Bool.eq_iff_iff]; simp

theorem scalar_any (r : Int) (w : World) :
    Gv Tryz.prog 252 [.int .i32 r] w fun v w' => v = .bool (scalarB r) ∧ w' = w := by
  refine gv (by kernel_rfl) Tryz.func252 rfl Tryz.ntmps252 rfl ?_; conv => whnf
  (repeat' (first
      | (refine Obl.mk ⟨by omega, by omega⟩ ?_; conv => whnf)
      | (refine Obl.mk ⟨by omega, by omega, ⟨by omega, by omega⟩⟩ ?_; conv => whnf)
      | ((with_reducible refine Tst.tt ?_); conv => whnf)
      | ((with_reducible refine Tst.ff ?_); conv => whnf)
      | ((with_reducible refine Tst.dec (fun _ => ?_) (fun _ => ?_)) <;> first | (exfalso; omega) | (conv => whnf))
      | ((with_reducible refine Tst.not ?_))
      | (refine Wit.conv ⟨by omega, by omega⟩ ?_; conv => whnf)
      | ((with_reducible refine IdxV.nat (by omega) ?_); conv => whnf)
      | ((with_reducible refine SameW.mk rfl ?_); conv => whnf)
      | (refine LoadV.mem (i := 0) (by assumption) rfl rfl ?_; conv => whnf)
      | (refine LoadV.mem (i := 1) (by assumption) rfl rfl ?_; conv => whnf)
      | (refine LoadV.mem (i := 2) (by assumption) rfl rfl ?_; conv => whnf)
      | ((with_reducible refine Tst.beqT ?_))
      | ((with_reducible refine Tst.beqF ?_))
      | (refine Tst.yes rfl ?_; conv => whnf)
      | (refine Tst.no rfl ?_; conv => whnf)))
  all_goals (refine ⟨congrArg Value.bool ((scalarB_iff r _).2 ?_), rfl⟩; simp; try omega)

def leadI (c : Nat) : Nat × Nat :=
  if c < 0x80 then (1, c) else if c < 0xC0 then (0, 0) else if c < 0xE0 then (2, c % 32) else if c < 0xF0 then (3, c % 16) else if c < 0xF8 then (4, c % 8) else (0, 0)
theorem leadI_le (c : Nat) (_h : c < 256) : (leadI c).1 ≤ 4 ∧ (leadI c).2 < 128 := by
  unfold leadI; repeat (first | split | (refine ⟨?_, ?_⟩ <;> dsimp only <;> omega))

theorem lead_any (c : UInt8) (w : World) :
    Gv Tryz.prog 250 [.int .u8 c.toNat] w fun v w' => v = .tuple #[.int .i64 (leadI c.toNat).1, .int .i32 (leadI c.toNat).2] ∧ w' = w := by
  refine gv (by kernel_rfl) Tryz.func250 rfl Tryz.ntmps250 rfl ?_; conv => whnf
  (repeat' (first
      | (refine Obl.mk ⟨by omega, by omega⟩ ?_; conv => whnf)
      | (refine Obl.mk ⟨by omega, by omega, ⟨by omega, by omega⟩⟩ ?_; conv => whnf)
      | ((with_reducible refine Tst.tt ?_); conv => whnf)
      | ((with_reducible refine Tst.ff ?_); conv => whnf)
      | ((with_reducible refine Tst.dec (fun _ => ?_) (fun _ => ?_)) <;> first | (exfalso; omega) | (conv => whnf))
      | ((with_reducible refine Tst.not ?_))
      | (refine Wit.conv ⟨by omega, by omega⟩ ?_; conv => whnf)
      | ((with_reducible refine IdxV.nat (by omega) ?_); conv => whnf)
      | ((with_reducible refine SameW.mk rfl ?_); conv => whnf)
      | (refine LoadV.mem (i := 0) (by assumption) rfl rfl ?_; conv => whnf)
      | (refine LoadV.mem (i := 1) (by assumption) rfl rfl ?_; conv => whnf)
      | (refine LoadV.mem (i := 2) (by assumption) rfl rfl ?_; conv => whnf)
      | ((with_reducible refine Tst.beqT ?_))
      | ((with_reducible refine Tst.beqF ?_))
      | (refine Tst.yes rfl ?_; conv => whnf)
      | (refine Tst.no rfl ?_; conv => whnf)))
  · exact ⟨by rw [leadI, if_pos (by omega)]; rfl, rfl⟩
  · exact ⟨by rw [leadI, if_neg (by omega), if_pos (by omega)]; rfl, rfl⟩
  · refine Wit.eq (bits_mod 5 rfl ⟨by omega, by omega⟩ ⟨by omega, by omega⟩) ?_; (conv => whnf)
    (repeat' (first
      | (refine Obl.mk ⟨by omega, by omega⟩ ?_; conv => whnf)
      | (refine Obl.mk ⟨by omega, by omega, ⟨by omega, by omega⟩⟩ ?_; conv => whnf)
      | ((with_reducible refine Tst.tt ?_); conv => whnf)
      | ((with_reducible refine Tst.ff ?_); conv => whnf)
      | ((with_reducible refine Tst.dec (fun _ => ?_) (fun _ => ?_)) <;> first | (exfalso; omega) | (conv => whnf))
      | ((with_reducible refine Tst.not ?_))
      | (refine Wit.conv ⟨by omega, by omega⟩ ?_; conv => whnf)
      | ((with_reducible refine IdxV.nat (by omega) ?_); conv => whnf)
      | ((with_reducible refine SameW.mk rfl ?_); conv => whnf)
      | (refine LoadV.mem (i := 0) (by assumption) rfl rfl ?_; conv => whnf)
      | (refine LoadV.mem (i := 1) (by assumption) rfl rfl ?_; conv => whnf)
      | (refine LoadV.mem (i := 2) (by assumption) rfl rfl ?_; conv => whnf)
      | ((with_reducible refine Tst.beqT ?_))
      | ((with_reducible refine Tst.beqF ?_))
      | (refine Tst.yes rfl ?_; conv => whnf)
      | (refine Tst.no rfl ?_; conv => whnf)))
    exact ⟨by rw [leadI, if_neg (by omega), if_neg (by omega), if_pos (by omega)]; rfl, rfl⟩
  · refine Wit.eq (bits_mod 4 rfl ⟨by omega, by omega⟩ ⟨by omega, by omega⟩) ?_; (conv => whnf)
    (repeat' (first
      | (refine Obl.mk ⟨by omega, by omega⟩ ?_; conv => whnf)
      | (refine Obl.mk ⟨by omega, by omega, ⟨by omega, by omega⟩⟩ ?_; conv => whnf)
      | ((with_reducible refine Tst.tt ?_); conv => whnf)
      | ((with_reducible refine Tst.ff ?_); conv => whnf)
      | ((with_reducible refine Tst.dec (fun _ => ?_) (fun _ => ?_)) <;> first | (exfalso; omega) | (conv => whnf))
      | ((with_reducible refine Tst.not ?_))
      | (refine Wit.conv ⟨by omega, by omega⟩ ?_; conv => whnf)
      | ((with_reducible refine IdxV.nat (by omega) ?_); conv => whnf)
      | ((with_reducible refine SameW.mk rfl ?_); conv => whnf)
      | (refine LoadV.mem (i := 0) (by assumption) rfl rfl ?_; conv => whnf)
      | (refine LoadV.mem (i := 1) (by assumption) rfl rfl ?_; conv => whnf)
      | (refine LoadV.mem (i := 2) (by assumption) rfl rfl ?_; conv => whnf)
      | ((with_reducible refine Tst.beqT ?_))
      | ((with_reducible refine Tst.beqF ?_))
      | (refine Tst.yes rfl ?_; conv => whnf)
      | (refine Tst.no rfl ?_; conv => whnf)))
    exact ⟨by rw [leadI, if_neg (by omega), if_neg (by omega), if_neg (by omega), if_pos (by omega)]; rfl, rfl⟩
  · refine Wit.eq (bits_mod 3 rfl ⟨by omega, by omega⟩ ⟨by omega, by omega⟩) ?_; (conv => whnf)
    (repeat' (first
      | (refine Obl.mk ⟨by omega, by omega⟩ ?_; conv => whnf)
      | (refine Obl.mk ⟨by omega, by omega, ⟨by omega, by omega⟩⟩ ?_; conv => whnf)
      | ((with_reducible refine Tst.tt ?_); conv => whnf)
      | ((with_reducible refine Tst.ff ?_); conv => whnf)
      | ((with_reducible refine Tst.dec (fun _ => ?_) (fun _ => ?_)) <;> first | (exfalso; omega) | (conv => whnf))
      | ((with_reducible refine Tst.not ?_))
      | (refine Wit.conv ⟨by omega, by omega⟩ ?_; conv => whnf)
      | ((with_reducible refine IdxV.nat (by omega) ?_); conv => whnf)
      | ((with_reducible refine SameW.mk rfl ?_); conv => whnf)
      | (refine LoadV.mem (i := 0) (by assumption) rfl rfl ?_; conv => whnf)
      | (refine LoadV.mem (i := 1) (by assumption) rfl rfl ?_; conv => whnf)
      | (refine LoadV.mem (i := 2) (by assumption) rfl rfl ?_; conv => whnf)
      | ((with_reducible refine Tst.beqT ?_))
      | ((with_reducible refine Tst.beqF ?_))
      | (refine Tst.yes rfl ?_; conv => whnf)
      | (refine Tst.no rfl ?_; conv => whnf)))
    exact ⟨by rw [leadI, if_neg (by omega), if_neg (by omega), if_neg (by omega), if_neg (by omega), if_pos (by omega)]; rfl, rfl⟩
  · exact ⟨by rw [leadI, if_neg (by omega), if_neg (by omega), if_neg (by omega), if_neg (by omega), if_neg (by omega)]; rfl, rfl⟩

def leastN (n : Nat) : Nat := if n = 2 then 0x80 else if n = 3 then 0x800 else if n = 4 then 0x10000 else 0
theorem least_any (n : Nat) (h : n ≤ 4) (w : World) :
    Gv Tryz.prog 251 [.int .i64 n] w fun v w' => v = .int .i32 (leastN n) ∧ w' = w := by
  refine gv (by kernel_rfl) Tryz.func251 rfl Tryz.ntmps251 rfl ?_; conv => whnf
  (repeat' (first
      | (refine Obl.mk ⟨by omega, by omega⟩ ?_; conv => whnf)
      | (refine Obl.mk ⟨by omega, by omega, ⟨by omega, by omega⟩⟩ ?_; conv => whnf)
      | ((with_reducible refine Tst.tt ?_); conv => whnf)
      | ((with_reducible refine Tst.ff ?_); conv => whnf)
      | ((with_reducible refine Tst.dec (fun _ => ?_) (fun _ => ?_)) <;> first | (exfalso; omega) | (conv => whnf))
      | ((with_reducible refine Tst.not ?_))
      | (refine Wit.conv ⟨by omega, by omega⟩ ?_; conv => whnf)
      | ((with_reducible refine IdxV.nat (by omega) ?_); conv => whnf)
      | ((with_reducible refine SameW.mk rfl ?_); conv => whnf)
      | (refine LoadV.mem (i := 0) (by assumption) rfl rfl ?_; conv => whnf)
      | (refine LoadV.mem (i := 1) (by assumption) rfl rfl ?_; conv => whnf)
      | (refine LoadV.mem (i := 2) (by assumption) rfl rfl ?_; conv => whnf)
      | ((with_reducible refine Tst.beqT ?_))
      | ((with_reducible refine Tst.beqF ?_))
      | (refine Tst.yes rfl ?_; conv => whnf)
      | (refine Tst.no rfl ?_; conv => whnf)))
  refine ⟨.int .i32 (leastN n), ?_, ?_⟩
  · obtain rfl | rfl | rfl | rfl | rfl : n = 0 ∨ n = 1 ∨ n = 2 ∨ n = 3 ∨ n = 4 := by omega
    all_goals rfl
  · (conv => whnf)
    exact ⟨rfl, rfl⟩

/-- what the bytes behind the first one add. -/
def accR (r : Nat) (l : List UInt8) : Nat := l.foldl (fun r c => r * 64 + c.toNat % 64) r
def cont (c : UInt8) : Bool := c.toNat / 64 == 2
def decN : List UInt8 → Nat × Nat
  | [] => (0, 0)
  | b :: t =>
    let n := (leadI b.toNat).1
    if n = 0 ∨ t.length < n - 1 then (0, 0)
    else if (t.take (n - 1)).all cont then
      let r := accR (leadI b.toNat).2 (t.take (n - 1))
      if r < leastN n ∨ scalarB r = false then (0, 0) else (r, n)
    else (0, 0)
theorem accR_lt (r : Nat) (l : List UInt8) : accR r l < (r + 1) * 64 ^ l.length := by
  induction l generalizing r with
  | nil => simp [accR]
  | cons c l ih =>
    have h1 := ih (r * 64 + c.toNat % 64)
    have h2 : c.toNat % 64 < 64 := Nat.mod_lt _ (by omega)
    simp only [accR, List.foldl_cons, List.length_cons] at *
    refine Nat.lt_of_lt_of_le h1 ?_
    rw [Nat.pow_succ, Nat.mul_comm (64 ^ _) 64, ← Nat.mul_assoc]
    exact Nat.mul_le_mul_right _ (by omega)


theorem get_take {l : List UInt8} {k : Nat} (h : k < l.length) : l.take (k + 1) = l.take k ++ [l.getD k 0] := by
  rw [List.take_succ_eq_append_getElem h, List.getD_eq_getElem?_getD, List.getElem?_eq_getElem h, Option.getD_some]
theorem drop_get (s : ByteArray) (p : Nat) (h : p < s.size) : s.data.toList.drop p = gb s p :: s.data.toList.drop (p + 1) := by
  have h' : p < s.data.toList.length := by simpa using h
  rw [List.drop_eq_getElem_cons h', gb, List.getD_eq_getElem?_getD, List.getElem?_eq_getElem h', Option.getD_some]
theorem drop_getD (s : ByteArray) (p k : Nat) : (s.data.toList.drop p).getD k 0 = gb s (p + k) := by
  simp [gb, List.getD_eq_getElem?_getD]
theorem drop_len (s : ByteArray) (p : Nat) : (s.data.toList.drop p).length = s.size - p := by simp
theorem and192 (m : Nat) (h : m < 256) : m &&& 192 = m / 64 * 64 := by
  have : ∀ m : Fin 256, m.1 &&& 192 = m.1 / 64 * 64 := by decide +kernel
  exact this ⟨m, h⟩
theorem next_any (s : ByteArray) (p : Nat) (hp : p < s.size) (hs : s.size ≤ 140737488355328) (w : World) :
    Gv Tryz.prog 204 [.string s, .int .i64 p] w fun v w' => v = .tuple #[.int .i32 (decN (s.data.toList.drop p)).1, .int .i64 (decN (s.data.toList.drop p)).2] ∧ w' = w := by
  obtain ⟨t, ht⟩ : ∃ t, t = s.data.toList.drop (p + 1) := ⟨_, rfl⟩
  obtain ⟨n, hn⟩ : ∃ n, n = (leadI (gb s p).toNat).1 := ⟨_, rfl⟩
  obtain ⟨r, hr⟩ : ∃ r, r = (leadI (gb s p).toNat).2 := ⟨_, rfl⟩
  have hlead := lead_any (gb s p) w
  have hb := leadI_le (gb s p).toNat (gb s p).toNat_lt
  rw [← hn, ← hr] at hlead hb
  obtain ⟨hb1, hb2⟩ := hb
  have htl : t.length = s.size - (p + 1) := by rw [ht, drop_len]
  have hd : decN (s.data.toList.drop p) = if n = 0 ∨ t.length < n - 1 then (0, 0) else if (t.take (n - 1)).all cont then
      (if accR r (t.take (n - 1)) < leastN n ∨ scalarB (accR r (t.take (n - 1))) = false then (0, 0) else (accR r (t.take (n - 1)), n)) else (0, 0) := by
    rw [drop_get s p hp, ← ht, hn, hr]; rfl
  refine gv (by kernel_rfl) Tryz.func204 rfl Tryz.ntmps204 rfl ?_; conv => whnf
  (repeat' (first
      | (refine Obl.mk ⟨by omega, by omega⟩ ?_; conv => whnf)
      | (refine Obl.mk ⟨by omega, by omega, ⟨by omega, by omega⟩⟩ ?_; conv => whnf)
      | ((with_reducible refine Tst.tt ?_); conv => whnf)
      | ((with_reducible refine Tst.ff ?_); conv => whnf)
      | ((with_reducible refine Tst.dec (fun _ => ?_) (fun _ => ?_)) <;> first | (exfalso; omega) | (conv => whnf))
      | ((with_reducible refine Tst.not ?_))
      | (refine Wit.conv ⟨by omega, by omega⟩ ?_; conv => whnf)
      | ((with_reducible refine IdxV.nat (by omega) ?_); conv => whnf)
      | ((with_reducible refine SameW.mk rfl ?_); conv => whnf)
      | (refine LoadV.mem (i := 0) (by assumption) rfl rfl ?_; conv => whnf)
      | (refine LoadV.mem (i := 1) (by assumption) rfl rfl ?_; conv => whnf)
      | (refine LoadV.mem (i := 2) (by assumption) rfl rfl ?_; conv => whnf)
      | ((with_reducible refine Tst.beqT ?_))
      | ((with_reducible refine Tst.beqF ?_))
      | (refine Tst.yes rfl ?_; conv => whnf)
      | (refine Tst.no rfl ?_; conv => whnf)))
  refine CallV.of (hlead) ?_
  rintro v w' ⟨rfl, rfl⟩
  (conv => whnf)
  (repeat' (first
      | (refine Obl.mk ⟨by omega, by omega⟩ ?_; conv => whnf)
      | (refine Obl.mk ⟨by omega, by omega, ⟨by omega, by omega⟩⟩ ?_; conv => whnf)
      | ((with_reducible refine Tst.tt ?_); conv => whnf)
      | ((with_reducible refine Tst.ff ?_); conv => whnf)
      | ((with_reducible refine Tst.dec (fun _ => ?_) (fun _ => ?_)) <;> first | (exfalso; omega) | (conv => whnf))
      | ((with_reducible refine Tst.not ?_))
      | (refine Wit.conv ⟨by omega, by omega⟩ ?_; conv => whnf)
      | ((with_reducible refine IdxV.nat (by omega) ?_); conv => whnf)
      | ((with_reducible refine SameW.mk rfl ?_); conv => whnf)
      | (refine LoadV.mem (i := 0) (by assumption) rfl rfl ?_; conv => whnf)
      | (refine LoadV.mem (i := 1) (by assumption) rfl rfl ?_; conv => whnf)
      | (refine LoadV.mem (i := 2) (by assumption) rfl rfl ?_; conv => whnf)
      | ((with_reducible refine Tst.beqT ?_))
      | ((with_reducible refine Tst.beqF ?_))
      | (refine Tst.yes rfl ?_; conv => whnf)
      | (refine Tst.no rfl ?_; conv => whnf)))
  · exact ⟨by rw [hd, if_pos (by omega)]; rfl, rfl⟩
  · exact ⟨by rw [hd, if_pos (by omega)]; rfl, rfl⟩
  · refine loopV (fun k : Nat => [(0, .string s), (1, .int .i64 p), (6, .int .i64 n), (7, .int .i32 (accR r (t.take (k - 1)))), (8, .int .i64 k)])
      (fun k w1 => 1 ≤ k ∧ k ≤ n ∧ (t.take (k - 1)).all cont = true ∧ w1 = w') (fun k => n - k) 1 ⟨rfl, rfl, rfl, rfl, rfl, trivial⟩ ⟨by omega, by omega, rfl, rfl⟩ ?_
    rintro k w1 ρ' ⟨h1, h2, h3, rfl⟩
    have hacc := accR_lt r (t.take (k - 1))
    have hlen : (t.take (k - 1)).length = k - 1 := by rw [List.length_take]; omega
    rw [hlen] at hacc
    (conv => whnf)
    (repeat' (first
      | (refine Obl.mk ⟨by omega, by omega⟩ ?_; conv => whnf)
      | (refine Obl.mk ⟨by omega, by omega, ⟨by omega, by omega⟩⟩ ?_; conv => whnf)
      | ((with_reducible refine Tst.tt ?_); conv => whnf)
      | ((with_reducible refine Tst.ff ?_); conv => whnf)
      | ((with_reducible refine Tst.dec (fun _ => ?_) (fun _ => ?_)) <;> first | (exfalso; omega) | (conv => whnf))
      | ((with_reducible refine Tst.not ?_))
      | (refine Wit.conv ⟨by omega, by omega⟩ ?_; conv => whnf)
      | ((with_reducible refine IdxV.nat (by omega) ?_); conv => whnf)
      | ((with_reducible refine SameW.mk rfl ?_); conv => whnf)
      | (refine LoadV.mem (i := 0) (by assumption) rfl rfl ?_; conv => whnf)
      | (refine LoadV.mem (i := 1) (by assumption) rfl rfl ?_; conv => whnf)
      | (refine LoadV.mem (i := 2) (by assumption) rfl rfl ?_; conv => whnf)
      | ((with_reducible refine Tst.beqT ?_))
      | ((with_reducible refine Tst.beqF ?_))
      | (refine Tst.yes rfl ?_; conv => whnf)
      | (refine Tst.no rfl ?_; conv => whnf)))
    · refine IdxV.at_ (p + k) (by omega) (by omega) ?_
      (conv => whnf)
      have hc : (gb s (p + k)).toNat < 256 := (gb s (p + k)).toNat_lt
      have hg : t.getD (k - 1) 0 = gb s (p + k) := by rw [ht, drop_getD]; congr 1; omega
      have ht1 : t.take k = t.take (k - 1) ++ [gb s (p + k)] := by
        have := get_take (l := t) (k := k - 1) (by omega)
        rw [hg, show k - 1 + 1 = k from by omega] at this; exact this
      have hacc2 : accR r (t.take (k - 1)) < 524288 := by
        refine Nat.lt_of_lt_of_le hacc (Nat.le_trans (Nat.mul_le_mul (Nat.succ_le_of_lt hb2) (Nat.pow_le_pow_right (by omega) (show k - 1 ≤ 2 by omega))) (by decide))
      refine Wit.eq (y := (((gb s (p + k)).toNat / 64 * 64 : Nat) : Int)) (by rw [← and192 _ hc]; exact bits_and (n := 192) ⟨by omega, by omega⟩ ⟨by decide, by decide⟩) ?_
      (conv => whnf)
      (repeat' (first
      | (refine Obl.mk ⟨by omega, by omega⟩ ?_; conv => whnf)
      | (refine Obl.mk ⟨by omega, by omega, ⟨by omega, by omega⟩⟩ ?_; conv => whnf)
      | ((with_reducible refine Tst.tt ?_); conv => whnf)
      | ((with_reducible refine Tst.ff ?_); conv => whnf)
      | ((with_reducible refine Tst.dec (fun _ => ?_) (fun _ => ?_)) <;> first | (exfalso; omega) | (conv => whnf))
      | ((with_reducible refine Tst.not ?_))
      | (refine Wit.conv ⟨by omega, by omega⟩ ?_; conv => whnf)
      | ((with_reducible refine IdxV.nat (by omega) ?_); conv => whnf)
      | ((with_reducible refine SameW.mk rfl ?_); conv => whnf)
      | (refine LoadV.mem (i := 0) (by assumption) rfl rfl ?_; conv => whnf)
      | (refine LoadV.mem (i := 1) (by assumption) rfl rfl ?_; conv => whnf)
      | (refine LoadV.mem (i := 2) (by assumption) rfl rfl ?_; conv => whnf)
      | ((with_reducible refine Tst.beqT ?_))
      | ((with_reducible refine Tst.beqF ?_))
      | (refine Tst.yes rfl ?_; conv => whnf)
      | (refine Tst.no rfl ?_; conv => whnf)))
      · refine ⟨?_, rfl⟩
        rw [hd, if_neg (by omega), if_neg ?_]
        · rfl
        · rw [Bool.not_eq_true]
          apply List.all_eq_false.2
          refine ⟨gb s (p + k), ?_, ?_⟩
          · have : gb s (p + k) ∈ t.take k := by rw [ht1]; simp
            exact List.mem_of_mem_take (i := k) (by rw [List.take_take, Nat.min_eq_left (by omega)]; exact this)
          · simp [cont]; omega
      · refine Wit.shl ⟨by decide, by decide⟩ (m := 64) (by decide) rfl ⟨by omega, by omega⟩ ?_
        (conv => whnf)
        refine Wit.eq (bits_mod 6 rfl ⟨by omega, by omega⟩ ⟨by omega, by omega⟩) ?_
        (conv => whnf)
        (repeat' (first
      | (refine Obl.mk ⟨by omega, by omega⟩ ?_; conv => whnf)
      | (refine Obl.mk ⟨by omega, by omega, ⟨by omega, by omega⟩⟩ ?_; conv => whnf)
      | ((with_reducible refine Tst.tt ?_); conv => whnf)
      | ((with_reducible refine Tst.ff ?_); conv => whnf)
      | ((with_reducible refine Tst.dec (fun _ => ?_) (fun _ => ?_)) <;> first | (exfalso; omega) | (conv => whnf))
      | ((with_reducible refine Tst.not ?_))
      | (refine Wit.conv ⟨by omega, by omega⟩ ?_; conv => whnf)
      | ((with_reducible refine IdxV.nat (by omega) ?_); conv => whnf)
      | ((with_reducible refine SameW.mk rfl ?_); conv => whnf)
      | (refine LoadV.mem (i := 0) (by assumption) rfl rfl ?_; conv => whnf)
      | (refine LoadV.mem (i := 1) (by assumption) rfl rfl ?_; conv => whnf)
      | (refine LoadV.mem (i := 2) (by assumption) rfl rfl ?_; conv => whnf)
      | ((with_reducible refine Tst.beqT ?_))
      | ((with_reducible refine Tst.beqF ?_))
      | (refine Tst.yes rfl ?_; conv => whnf)
      | (refine Tst.no rfl ?_; conv => whnf)))
        refine Wit.eq (y := ((accR r (t.take k) : Nat) : Int)) ?_ ?_
        · have := bits_add (k := .i32) (a := accR r (t.take (k - 1))) (b := (gb s (p + k)).toNat % 64) 6 ⟨by omega, by omega⟩ (by omega)
          rw [ht1]
          simpa [accR] using this
        (conv => whnf)
        (repeat' (first
      | (refine Obl.mk ⟨by omega, by omega⟩ ?_; conv => whnf)
      | (refine Obl.mk ⟨by omega, by omega, ⟨by omega, by omega⟩⟩ ?_; conv => whnf)
      | ((with_reducible refine Tst.tt ?_); conv => whnf)
      | ((with_reducible refine Tst.ff ?_); conv => whnf)
      | ((with_reducible refine Tst.dec (fun _ => ?_) (fun _ => ?_)) <;> first | (exfalso; omega) | (conv => whnf))
      | ((with_reducible refine Tst.not ?_))
      | (refine Wit.conv ⟨by omega, by omega⟩ ?_; conv => whnf)
      | ((with_reducible refine IdxV.nat (by omega) ?_); conv => whnf)
      | ((with_reducible refine SameW.mk rfl ?_); conv => whnf)
      | (refine LoadV.mem (i := 0) (by assumption) rfl rfl ?_; conv => whnf)
      | (refine LoadV.mem (i := 1) (by assumption) rfl rfl ?_; conv => whnf)
      | (refine LoadV.mem (i := 2) (by assumption) rfl rfl ?_; conv => whnf)
      | ((with_reducible refine Tst.beqT ?_))
      | ((with_reducible refine Tst.beqF ?_))
      | (refine Tst.yes rfl ?_; conv => whnf)
      | (refine Tst.no rfl ?_; conv => whnf)))
        refine ⟨k + 1, ⟨rfl, rfl, rfl, rfl, rfl, trivial⟩, ⟨by omega, by omega, ?_, rfl⟩, by omega⟩
        rw [show k + 1 - 1 = k from by omega, ht1, List.all_append, h3]
        simp [cont]; omega
    · obtain rfl : k = n := by omega
      refine CallV.of (least_any k hb1 _) ?_
      rintro v w' ⟨rfl, rfl⟩
      (conv => whnf)
      (repeat' (first
      | (refine Obl.mk ⟨by omega, by omega⟩ ?_; conv => whnf)
      | (refine Obl.mk ⟨by omega, by omega, ⟨by omega, by omega⟩⟩ ?_; conv => whnf)
      | ((with_reducible refine Tst.tt ?_); conv => whnf)
      | ((with_reducible refine Tst.ff ?_); conv => whnf)
      | ((with_reducible refine Tst.dec (fun _ => ?_) (fun _ => ?_)) <;> first | (exfalso; omega) | (conv => whnf))
      | ((with_reducible refine Tst.not ?_))
      | (refine Wit.conv ⟨by omega, by omega⟩ ?_; conv => whnf)
      | ((with_reducible refine IdxV.nat (by omega) ?_); conv => whnf)
      | ((with_reducible refine SameW.mk rfl ?_); conv => whnf)
      | (refine LoadV.mem (i := 0) (by assumption) rfl rfl ?_; conv => whnf)
      | (refine LoadV.mem (i := 1) (by assumption) rfl rfl ?_; conv => whnf)
      | (refine LoadV.mem (i := 2) (by assumption) rfl rfl ?_; conv => whnf)
      | ((with_reducible refine Tst.beqT ?_))
      | ((with_reducible refine Tst.beqF ?_))
      | (refine Tst.yes rfl ?_; conv => whnf)
      | (refine Tst.no rfl ?_; conv => whnf)))
      · refine ⟨?_, rfl⟩
        rw [hd, if_neg (by omega), if_pos h3, if_pos (.inl (by omega))]; rfl
      · refine CallV.of (scalar_any _ _) ?_
        rintro v w' ⟨rfl, rfl⟩
        (conv => whnf)
        cases hsc : scalarB (accR r (t.take (k - 1)))
        · (conv => whnf)
          (repeat' (first
      | (refine Obl.mk ⟨by omega, by omega⟩ ?_; conv => whnf)
      | (refine Obl.mk ⟨by omega, by omega, ⟨by omega, by omega⟩⟩ ?_; conv => whnf)
      | ((with_reducible refine Tst.tt ?_); conv => whnf)
      | ((with_reducible refine Tst.ff ?_); conv => whnf)
      | ((with_reducible refine Tst.dec (fun _ => ?_) (fun _ => ?_)) <;> first | (exfalso; omega) | (conv => whnf))
      | ((with_reducible refine Tst.not ?_))
      | (refine Wit.conv ⟨by omega, by omega⟩ ?_; conv => whnf)
      | ((with_reducible refine IdxV.nat (by omega) ?_); conv => whnf)
      | ((with_reducible refine SameW.mk rfl ?_); conv => whnf)
      | (refine LoadV.mem (i := 0) (by assumption) rfl rfl ?_; conv => whnf)
      | (refine LoadV.mem (i := 1) (by assumption) rfl rfl ?_; conv => whnf)
      | (refine LoadV.mem (i := 2) (by assumption) rfl rfl ?_; conv => whnf)
      | ((with_reducible refine Tst.beqT ?_))
      | ((with_reducible refine Tst.beqF ?_))
      | (refine Tst.yes rfl ?_; conv => whnf)
      | (refine Tst.no rfl ?_; conv => whnf)))
          refine ⟨?_, rfl⟩
          rw [hd, if_neg (by omega), if_pos h3, if_pos (.inr hsc)]; rfl
        · (conv => whnf)
          (repeat' (first
      | (refine Obl.mk ⟨by omega, by omega⟩ ?_; conv => whnf)
      | (refine Obl.mk ⟨by omega, by omega, ⟨by omega, by omega⟩⟩ ?_; conv => whnf)
      | ((with_reducible refine Tst.tt ?_); conv => whnf)
      | ((with_reducible refine Tst.ff ?_); conv => whnf)
      | ((with_reducible refine Tst.dec (fun _ => ?_) (fun _ => ?_)) <;> first | (exfalso; omega) | (conv => whnf))
      | ((with_reducible refine Tst.not ?_))
      | (refine Wit.conv ⟨by omega, by omega⟩ ?_; conv => whnf)
      | ((with_reducible refine IdxV.nat (by omega) ?_); conv => whnf)
      | ((with_reducible refine SameW.mk rfl ?_); conv => whnf)
      | (refine LoadV.mem (i := 0) (by assumption) rfl rfl ?_; conv => whnf)
      | (refine LoadV.mem (i := 1) (by assumption) rfl rfl ?_; conv => whnf)
      | (refine LoadV.mem (i := 2) (by assumption) rfl rfl ?_; conv => whnf)
      | ((with_reducible refine Tst.beqT ?_))
      | ((with_reducible refine Tst.beqF ?_))
      | (refine Tst.yes rfl ?_; conv => whnf)
      | (refine Tst.no rfl ?_; conv => whnf)))
          refine ⟨?_, rfl⟩
          rw [hd, if_neg (by omega), if_pos h3, if_neg (by rw [hsc]; simp; omega)]


/-- A whole text's scalars; none: it is no UTF-8. -/
def scal (l : List UInt8) : Option (List Nat) :=
  match l with
  | [] => some []
  | b :: t => if _h : (decN (b :: t)).2 = 0 then none else (scal ((b :: t).drop (decN (b :: t)).2)).map ((decN (b :: t)).1 :: ·)
termination_by l.length
decreasing_by simp [List.length_drop]; omega

theorem decN_le (l : List UInt8) : (decN l).2 ≤ l.length := by
  unfold decN
  split
  · simp
  · rename_i b t
    have := leadI_le b.toNat b.toNat_lt
    simp only
    split
    · simp
    · split
      · split <;> simp; omega
      · simp
theorem decN_le4 (l : List UInt8) : (decN l).2 ≤ 4 := by
  unfold decN
  split
  · simp
  · rename_i b t
    have := leadI_le b.toNat b.toNat_lt
    simp only
    split
    · simp
    · split
      · split <;> simp; omega
      · simp
theorem scal_none {l : List UInt8} (h : l ≠ []) (h0 : (decN l).2 = 0) : scal l = none := by
  match l, h with
  | a :: t, _ => rw [scal, dif_pos h0]
theorem scal_step {l : List UInt8} (h : l ≠ []) (h0 : (decN l).2 ≠ 0) : scal l = (scal (l.drop (decN l).2)).map ((decN l).1 :: ·) := by
  match l, h with
  | a :: t, _ => rw [scal, dif_neg h0]
theorem drop_ne (s : ByteArray) (p : Nat) (h : p < s.size) : s.data.toList.drop p ≠ [] := by
  rw [drop_get s p h]; simp

/-- utf.Check: -1, or a place that is none of -1. -/
theorem check_any (s : ByteArray) (hs : s.size ≤ 140737488355328) (w : World) :
    Gv Tryz.prog 147 [.string s] w fun v w' => (∃ i : Int, v = .int .i64 i ∧ i < 4611686018427387904 ∧ (scal s.data.toList ≠ none → i = -1) ∧ (scal s.data.toList = none → 0 ≤ i)) ∧ w' = w := by
  refine gv (by kernel_rfl) Tryz.func147 rfl Tryz.ntmps147 rfl ?_; conv => whnf
  refine loopV (fun p : Nat => [(0, .string s), (3, .int .i64 p)]) (fun p w1 => p ≤ s.size ∧ (scal s.data.toList = none ↔ scal (s.data.toList.drop p) = none) ∧ w1 = w) (fun p => s.size - p) 0 ⟨rfl, rfl, trivial⟩ ⟨by omega, by simp, rfl⟩ ?_
  rintro p w1 ρ' ⟨h1, h2, rfl⟩
  (conv => whnf)
  (repeat' (first
      | (refine Obl.mk ⟨by omega, by omega⟩ ?_; conv => whnf)
      | (refine Obl.mk ⟨by omega, by omega, ⟨by omega, by omega⟩⟩ ?_; conv => whnf)
      | ((with_reducible refine Tst.tt ?_); conv => whnf)
      | ((with_reducible refine Tst.ff ?_); conv => whnf)
      | ((with_reducible refine Tst.dec (fun _ => ?_) (fun _ => ?_)) <;> first | (exfalso; omega) | (conv => whnf))
      | ((with_reducible refine Tst.not ?_))
      | (refine Wit.conv ⟨by omega, by omega⟩ ?_; conv => whnf)
      | ((with_reducible refine IdxV.nat (by omega) ?_); conv => whnf)
      | ((with_reducible refine SameW.mk rfl ?_); conv => whnf)
      | (refine LoadV.mem (i := 0) (by assumption) rfl rfl ?_; conv => whnf)
      | (refine LoadV.mem (i := 1) (by assumption) rfl rfl ?_; conv => whnf)
      | (refine LoadV.mem (i := 2) (by assumption) rfl rfl ?_; conv => whnf)
      | ((with_reducible refine Tst.beqT ?_))
      | ((with_reducible refine Tst.beqF ?_))
      | (refine Tst.yes rfl ?_; conv => whnf)
      | (refine Tst.no rfl ?_; conv => whnf)))
  · refine CallV.of (next_any s p (by omega) hs _) ?_
    rintro v w' ⟨rfl, rfl⟩
    have hle := decN_le (s.data.toList.drop p)
    rw [drop_len] at hle
    (conv => whnf)
    (repeat' (first
      | (refine Obl.mk ⟨by omega, by omega⟩ ?_; conv => whnf)
      | (refine Obl.mk ⟨by omega, by omega, ⟨by omega, by omega⟩⟩ ?_; conv => whnf)
      | ((with_reducible refine Tst.tt ?_); conv => whnf)
      | ((with_reducible refine Tst.ff ?_); conv => whnf)
      | ((with_reducible refine Tst.dec (fun _ => ?_) (fun _ => ?_)) <;> first | (exfalso; omega) | (conv => whnf))
      | ((with_reducible refine Tst.not ?_))
      | (refine Wit.conv ⟨by omega, by omega⟩ ?_; conv => whnf)
      | ((with_reducible refine IdxV.nat (by omega) ?_); conv => whnf)
      | ((with_reducible refine SameW.mk rfl ?_); conv => whnf)
      | (refine LoadV.mem (i := 0) (by assumption) rfl rfl ?_; conv => whnf)
      | (refine LoadV.mem (i := 1) (by assumption) rfl rfl ?_; conv => whnf)
      | (refine LoadV.mem (i := 2) (by assumption) rfl rfl ?_; conv => whnf)
      | ((with_reducible refine Tst.beqT ?_))
      | ((with_reducible refine Tst.beqF ?_))
      | (refine Tst.yes rfl ?_; conv => whnf)
      | (refine Tst.no rfl ?_; conv => whnf)))
    · refine ⟨⟨p, rfl, by omega, fun h => ?_, fun _ => by omega⟩, rfl⟩
      exact absurd (h2.2 (scal_none (drop_ne s p (by omega)) (by omega))) h
    · refine ⟨p + (decN (s.data.toList.drop p)).2, ⟨rfl, rfl, trivial⟩, ⟨by omega, ?_, rfl⟩, by omega⟩
      rw [h2, scal_step (drop_ne s p (by omega)) (by omega), List.drop_drop]
      simp
  · refine ⟨⟨-1, rfl, by omega, fun _ => rfl, fun h => ?_⟩, rfl⟩
    rw [h2, List.drop_eq_nil_of_le (by simp; omega)] at h
    rw [scal] at h; cases h
end Go.Proofs.YtajgbepghniciaaGreatDoor
namespace Go.Proofs
open Go.Shelf
def Tryz.lays119_ren : Go.Shelf.Ren := ⟨fun | 119 => 314 | n => n, fun | 21 => 21 | 4 => 4 | n => n, fun | n => n⟩
theorem Tryz.lays119 : Go.Proofs.Lays.n119 Tryz.prog Tryz.lays119_ren := {
  mixed := by kernel_rfl
  f119 := Tryz.func314.trans (congrArg some (by kernel_rfl))
  t4 := Tryz.underlying4
  a4 := Tryz.isAgg4
  z4 := Tryz.sizeOf4
  v4 := Tryz.zeroValue4
  t21 := Tryz.underlying21
  a21 := Tryz.isAgg21
  z21 := Tryz.sizeOf21
  v21 := Tryz.zeroValue21 }
/-- utf8.ValidRune: "ValidRune reports whether r can be legally encoded as UTF-8. Code points that are out of range or a surrogate half are illegal.": IT RETURNS 'Lib.validRune r'; the world is as it was. (LAID: no walk: one application.) -/
theorem Tryz.utf8_ValidRune (r : Int) (w : World) :
    Calls Tryz.prog 314 #[.int .i32 r] w fun e w' => e = .returned (.bool (Lib.validRune r)) ∧ w' = w := Any.utf8_ValidRune Tryz.lays119 r w
def Tryz.lays137_ren : Go.Shelf.Ren := ⟨fun | 137 => 293 | 217 => 313 | 266 => 321 | n => n, fun | 9 => 9 | 5 => 5 | 3 => 3 | n => n, fun | n => n⟩
theorem Tryz.lays137 : Go.Proofs.Lays.n137 Tryz.prog Tryz.lays137_ren := {
  mixed := by kernel_rfl
  f137 := Tryz.func293.trans (congrArg some (by kernel_rfl))
  f217 := Tryz.func313.trans (congrArg some (by kernel_rfl))
  f266 := Tryz.func321.trans (congrArg some (by kernel_rfl))
  t3 := Tryz.underlying3
  a3 := Tryz.isAgg3
  z3 := Tryz.sizeOf3
  v3 := Tryz.zeroValue3
  t5 := Tryz.underlying5
  a5 := Tryz.isAgg5
  z5 := Tryz.sizeOf5
  v5 := Tryz.zeroValue5
  t9 := Tryz.underlying9
  a9 := Tryz.isAgg9
  z9 := Tryz.sizeOf9
  v9 := Tryz.zeroValue9 }
open Go.RowKit in
/-- strings.IndexByte: "IndexByte returns the index of the first instance of c in s, or -1 if c is not present in s.": IT RETURNS 'Lib.indexByte s c'; the world is as it was. (LAID: no walk: one application.) -/
theorem Tryz.strings_IndexByte (s : ByteArray) (c : Int) (w : World) :
    Calls Tryz.prog 293 #[.string s, .int .u8 c] w fun e w' => e = .returned (.int .i64 (Lib.indexByte s.data.toList c.toNat.toUInt8)) ∧ w' = w := Any.strings_IndexByte Tryz.lays137 s c w
def Tryz.lays151_ren : Go.Shelf.Ren := ⟨fun | 151 => 255 | 152 => 302 | 137 => 293 | 119 => 314 | 224 => 315 | 225 => 316 | 217 => 313 | 266 => 321 | n => n, fun | 9 => 9 | 21 => 21 | 4 => 4 | 3 => 3 | 5 => 5 | 0 => 0 | 46 => 168 | n => n, fun | n => n⟩
theorem Tryz.lays151 : Go.Proofs.Lays.n151 Tryz.prog Tryz.lays151_ren := {
  mixed := by kernel_rfl
  f119 := Tryz.func314.trans (congrArg some (by kernel_rfl))
  f137 := Tryz.func293.trans (congrArg some (by kernel_rfl))
  f151 := Tryz.func255.trans (congrArg some (by kernel_rfl))
  f152 := Tryz.func302.trans (congrArg some (by kernel_rfl))
  f217 := Tryz.func313.trans (congrArg some (by kernel_rfl))
  f224 := Tryz.func315.trans (congrArg some (by kernel_rfl))
  f225 := Tryz.func316.trans (congrArg some (by kernel_rfl))
  f266 := Tryz.func321.trans (congrArg some (by kernel_rfl))
  t0 := Tryz.underlying0
  a0 := Tryz.isAgg0
  z0 := Tryz.sizeOf0
  v0 := Tryz.zeroValue0
  t3 := Tryz.underlying3
  a3 := Tryz.isAgg3
  z3 := Tryz.sizeOf3
  v3 := Tryz.zeroValue3
  t4 := Tryz.underlying4
  a4 := Tryz.isAgg4
  z4 := Tryz.sizeOf4
  v4 := Tryz.zeroValue4
  t5 := Tryz.underlying5
  a5 := Tryz.isAgg5
  z5 := Tryz.sizeOf5
  v5 := Tryz.zeroValue5
  t9 := Tryz.underlying9
  a9 := Tryz.isAgg9
  z9 := Tryz.sizeOf9
  v9 := Tryz.zeroValue9
  t21 := Tryz.underlying21
  a21 := Tryz.isAgg21
  z21 := Tryz.sizeOf21
  v21 := Tryz.zeroValue21
  t46 := Tryz.underlying168
  a46 := Tryz.isAgg168
  z46 := Tryz.sizeOf168
  v46 := Tryz.zeroValue168 }
open Go.RowKit Go.Lib in
theorem Tryz.strings_ContainsRune_ascii (s : ByteArray) (r : Int) (w : World) (h0 : 0 ≤ r) (h1 : r < 128) :
    Calls Tryz.prog 255 #[.string s, .int .i32 r] w fun e w' => e = .returned (.bool (decide (0 ≤ Lib.indexByte s.data.toList r.toNat.toUInt8))) ∧ w' = w := Any.strings_ContainsRune_ascii Tryz.lays151 s r w h0 h1
def Tryz.lays110_ren : Go.Shelf.Ren := ⟨fun | 110 => 263 | 109 => 306 | n => n, fun | 31 => 37 | 9 => 9 | 4 => 4 | 3 => 3 | 0 => 0 | n => n, fun | n => n⟩
theorem Tryz.lays110 : Go.Proofs.Lays.n110 Tryz.prog Tryz.lays110_ren := {
  mixed := by kernel_rfl
  f109 := Tryz.func306.trans (congrArg some (by kernel_rfl))
  f110 := Tryz.func263.trans (congrArg some (by kernel_rfl))
  t0 := Tryz.underlying0
  a0 := Tryz.isAgg0
  z0 := Tryz.sizeOf0
  v0 := Tryz.zeroValue0
  t3 := Tryz.underlying3
  a3 := Tryz.isAgg3
  z3 := Tryz.sizeOf3
  v3 := Tryz.zeroValue3
  t4 := Tryz.underlying4
  a4 := Tryz.isAgg4
  z4 := Tryz.sizeOf4
  v4 := Tryz.zeroValue4
  t9 := Tryz.underlying9
  a9 := Tryz.isAgg9
  z9 := Tryz.sizeOf9
  v9 := Tryz.zeroValue9
  t31 := Tryz.underlying37
  a31 := Tryz.isAgg37
  z31 := Tryz.sizeOf37
  v31 := Tryz.zeroValue37 }
open Go.Lib in
/-- slices.Contains at []string: "Contains reports whether v is present in s.": IT RETURNS 'Lib.containsS (the elements) v', which is true just where v is among them ('Lib.containsS_iff'); the world is as it was. ITS CALLEE slices.Index IS MET BY ITS OWN CONTRACT OFF THE SHELF (lay that first): no loop is walked here. (LAID: no walk: one application.) -/
theorem Tryz.slices_Contains_string (b off n c : Nat) (zs : List ByteArray) (x : ByteArray) (w : World) (hz : n ≤ zs.length) (hbig : n ≤ 9223372036854775807) (hc : ∀ j, j < zs.length → w.cell? ⟨b, off + j, none⟩ = some (.string (zs.getD j ByteArray.empty))) :
    Calls Tryz.prog 263 #[.slice (some ⟨b, off, none⟩) n c, .string x] w fun e w' => e = .returned (.bool (Lib.containsS (zs.take n) x)) ∧ w' = w := Any.slices_Contains_string Tryz.lays110 b off n c zs x w hz hbig hc
open Go.Lib in
/-- The same at a slice of length 0, a nil one too. (LAID: no walk: one application.) -/
theorem Tryz.slices_Contains_string_empty (a : Option Addr) (c : Nat) (x : ByteArray) (w : World) :
    Calls Tryz.prog 263 #[.slice a 0 c, .string x] w fun e w' => e = .returned (.bool false) ∧ w' = w := Any.slices_Contains_string_empty Tryz.lays110 a c x w
end Go.Proofs
