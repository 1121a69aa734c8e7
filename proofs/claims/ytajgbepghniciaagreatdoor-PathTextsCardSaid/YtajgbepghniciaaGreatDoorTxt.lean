/- path.Text. -/
import Derived.Test.YtajgbepghniciaaGreatDoorEsc2
import Derived.Test.YtajgbepghniciaaGreatDoorD
namespace Go.Proofs.YtajgbepghniciaaGreatDoor
open Go.RowKit V
set_option maxRecDepth 100000

def bs (l : List UInt8) : ByteArray := ⟨l.toArray⟩
/-- an IRI's text -/
def angT (s : ByteArray) : ByteArray := bs [60] ++ s ++ bs [62]
theorem iriE_ok {s : ByteArray} (h : iriE s = 0) : s.size ≤ 65536 ∧ scal s.data.toList ≠ none ∧ unb s := by
  unfold iriE at h
  split at h
  · contradiction
  · rename_i h0
    have h0 : refE s = 0 := by simpa using h0
    unfold refE at h0
    split at h0
    · omega
    · split at h0
      · omega
      · split at h0
        · omega
        · rename_i h1 h2 h3
          exact ⟨by omega, h2, by simpa [unb] using h3⟩
theorem termAngled_plain (s : ByteArray) (hs : iriE s = 0) (w : World) :
    Gv Tryz.prog 191 [.string s] w fun v w' => v = .string (angT s) ∧ Ext w w' := by
  obtain ⟨h1, h2, h3⟩ := iriE_ok hs
  refine gv (by kernel_rfl) Tryz.func191 rfl Tryz.ntmps191 rfl ?_; conv => whnf
  refine CallV.of (escape_plain s (by omega) h2 h3 w) ?_
  rintro v w1 ⟨rfl, he⟩
  (conv => whnf)
  refine ⟨by show (1 : Nat) + s.size ≤ _; omega, ?_⟩
  (conv => whnf)
  refine ⟨by show (_ : ByteArray).size + 1 ≤ _; rw [ByteArray.size_append]; show 1 + s.size + 1 ≤ _; omega, ?_⟩
  (conv => whnf)
  exact ⟨rfl, he⟩
theorem termText_iri (s : ByteArray) (hs : iriE s = 0) (w : World) :
    Gv Tryz.prog 123 [.agg #[.int .i64 1, .string s, .string ⟨#[]⟩, .string ⟨#[]⟩]] w fun v w' => v = .tuple #[.string (angT s), .int .i64 0] ∧ Ext w w' := by
  obtain ⟨h1, h2, h3⟩ := iriE_ok hs
  have hck := fun w => termCheck_iri s (by omega) w
  rw [hs] at hck
  refine gv (by kernel_rfl) Tryz.func123 rfl Tryz.ntmps123 rfl ?_; conv => whnf
  refine NewV.mem (Mem.nil w) ?_
  intro b w1 hm
  (conv => whnf)
  refine LoadA.mem hm (i := 0) rfl rfl ?_
  (conv => whnf)
  refine CallV.of (hck w1) ?_
  rintro v w2 ⟨rfl, he⟩
  have hm2 := hm.call he
  (conv => whnf)
  (repeat' (first
      | (refine Obl.mk ⟨by omega, by omega⟩ ?_; conv => whnf)
      | (refine Obl.mk ⟨by omega, by omega, ⟨by omega, by omega⟩⟩ ?_; conv => whnf)
      | ((with_reducible refine Tst.tt ?_); conv => whnf)
      | ((with_reducible refine Tst.ff ?_); conv => whnf)
      | ((with_reducible refine Tst.dec (fun _ => ?_) (fun _ => ?_)) <;> first | (exfalso; omega) | (conv => whnf))
      | ((with_reducible refine Tst.not ?_))
      | (refine Wit.conv ⟨by omega, by omega⟩ ?_; conv => whnf)
      | ((with_reducible refine IdxV.nat (by omega) ?_); conv => whnf)
      | ((with_reducible refine SameW.mk rfl ?_); conv => whnf)
      | (refine LoadV.mem (i := 0) (by assumption) rfl rfl ?_; conv => whnf)
      | (refine LoadV.mem (i := 1) (by assumption) rfl rfl ?_; conv => whnf)
      | (refine LoadV.mem (i := 2) (by assumption) rfl rfl ?_; conv => whnf)
      | ((with_reducible refine Tst.beqT ?_))
      | ((with_reducible refine Tst.beqF ?_))
      | (refine Tst.yes rfl ?_; conv => whnf)
      | (refine Tst.no rfl ?_; conv => whnf)))
  refine CallV.of (termAngled_plain s hs w2) ?_
  rintro v w3 ⟨rfl, he3⟩
  (conv => whnf)
  exact ⟨rfl, hm2.ext.trans he3⟩
theorem pathAngled_plain (s : ByteArray) (hs : iriE s = 0) (w : World) :
    Gv Tryz.prog 71 [.string s] w fun v w' => v = .string (angT s) ∧ Ext w w' := by
  refine gv (by kernel_rfl) Tryz.func71 rfl Tryz.ntmps71 rfl ?_; conv => whnf
  refine CallV.of (termText_iri s hs w) ?_
  rintro v w1 ⟨rfl, he⟩
  (conv => whnf)
  exact ⟨rfl, he⟩

namespace V
theorem Rw.tail {w0 w : World} {v : Value} {e : TypeId} {size n : Nat} {xs : List Value} {x : Nat × Obj} {L : List (Nat × Obj)} (h : Rw w0 w v e size n xs (x :: L)) : Rw w0 w v e size n xs L :=
  ⟨h.mem.sub (List.sublist_cons_self ..), h.own, fun y hy => h.apart y (List.mem_cons_of_mem _ hy)⟩
/-- one string more -/
theorem AppV.str1 {P : Program} {w0 w : World} {A : Option Addr} {c n nb : Nat} {xs : List Value} {L : List (Nat × Obj)} {t ty e : TypeId} {i : TypeInfo} {z x : Value} {K : Value → World → Prop}
    (ht : P.underlying t = some (.slice e)) (hi : P.info? e = some i) (hz : i.zero = some z) (hsize : i.size = 1) (hzs : z.cells.size = 1) (hby : i.bytes ≤ 16)
    (h : Rw w0 w (.slice A n c) e 1 n xs ((nb, .cells #[x] e (0, 0)) :: L)) (hx : x.oneCell' = true) (hn : n + 1 ≤ 1000000)
    (hk : ∀ A' c' w', Rw w0 w' (.slice A' (n + 1) c') e 1 (n + 1) (xs ++ [x]) L → K (.slice A' (n + 1) c') w') : AppV P #[t, t] ty (.slice A n c) (.slice (some ⟨nb, 0, none⟩) 1 1) w K := by
  refine AppV.rw (news := [x]) ht hi hz hsize hzs (by decide) h rfl (fun _ => ⟨nb, 0, rfl, fun k v hv => ?_⟩) (fun u hu => by simp at hu; rw [hu]; exact hx) ?_ (by omega) (fun A' c' w' h' => hk A' c' w' h'.tail)
  · rw [cell_heap (h.mem.get (List.mem_cons_self ..)), Nat.zero_add]
    simpa using hv
  · have : (n + 1) * i.bytes ≤ 1000000 * 16 := Nat.mul_le_mul hn hby
    omega
end V

theorem V.Rw.cells {w0 w : World} {A : Option Addr} {c n : Nat} {e : TypeId} {xs : List Value} {L : List (Nat × Obj)} (h : Rw w0 w (.slice A n c) e 1 n xs L) (hn : 0 < n) :
    ∃ g, A = some ⟨g, 0, none⟩ ∧ w0.heap.size ≤ g ∧ g < w.heap.size ∧ n ≤ c ∧ CellsAt w g 0 xs := by
  rcases h.own.2 with ⟨e1, e2⟩ | ⟨g, cap, cur, e1, hg0, hg, hnc, _, hcs, htk⟩
  · omega
  · cases e1
    refine ⟨g, rfl, hg0, ?_, hnc, fun k v hv => ?_⟩
    · rcases Nat.lt_or_ge g w.heap.size with h' | h'
      · exact h'
      · rw [Array.getElem?_eq_none h'] at hg; cases hg
    · rw [cell_heap hg, Nat.zero_add]
      rw [← htk, List.getElem?_take] at hv
      split at hv
      · simpa using hv
      · cases hv
theorem join_len_le (l : List (List UInt8)) (sep : List UInt8) (M : Nat) (h : ∀ x ∈ l, x.length ≤ M) : (Lib.join l sep).length ≤ l.length * (M + sep.length) := by
  cases l with
  | nil => simp [Lib.join_nil]
  | cons x r =>
    rw [Lib.join_cons, List.length_append, Lib.joinTail_length]
    have hx := h x (List.mem_cons_self ..)
    have hr : Lib.lens r ≤ r.length * M := by
      have hr' : ∀ y ∈ r, y.length ≤ M := fun y hy => h y (List.mem_cons_of_mem _ hy)
      clear h hx
      induction r with
      | nil => simp [Lib.lens]
      | cons y r ih =>
        have := ih (fun z hz => hr' z (List.mem_cons_of_mem _ hz))
        have h1 := hr' y (List.mem_cons_self ..)
        simp only [Lib.lens, List.map_cons, List.sum_cons, List.length_cons, Nat.succ_mul] at this ⊢
        omega
    simp only [List.length_cons, Nat.succ_mul, Nat.mul_add]
    rw [Nat.mul_comm sep.length r.length]
    omega

/-- the texts of a negated set's IRIs -/
def notL (f v : List ByteArray) : List ByteArray := f.map angT ++ v.map fun s => bs [94] ++ angT s
def joinT (l : List ByteArray) (sep : List UInt8) : ByteArray := bs (Lib.join (l.map (·.data.toList)) sep)
def notT (n : PN) : ByteArray := if (notL n.f n.v).length = 1 then bs [33] ++ (notL n.f n.v).headD (bs []) else bs [33, 40] ++ joinT (notL n.f n.v) [124] ++ bs [41]

theorem not_any (n : PN) (w : World) (hn : NodeOk w n) (h1 : ListedP n.f) (h2 : ListedP n.v) (hl : n.f.length + n.v.length ≤ 100000) (h0 : 0 < n.f.length + n.v.length) :
    Gv Tryz.prog 72 [.agg #[.int .i64 n.op, .string n.iri, .int .i64 n.a, .int .i64 n.b, .slice n.fA n.f.length n.fc, .slice n.vA n.v.length n.vc]] w fun v w' => v = .string (notT n) ∧ Ext w w' := by
  refine gv (by kernel_rfl) Tryz.func72 rfl Tryz.ntmps72 rfl ?_; conv => whnf
  refine NewV.mem (Mem.nil w) ?_
  intro b w1 hm
  (conv => whnf)
  (repeat' (first
      | (refine Obl.mk ⟨by omega, by omega⟩ ?_; conv => whnf)
      | (refine Obl.mk ⟨by omega, by omega, ⟨by omega, by omega⟩⟩ ?_; conv => whnf)
      | ((with_reducible refine Tst.tt ?_); conv => whnf)
      | ((with_reducible refine Tst.ff ?_); conv => whnf)
      | ((with_reducible refine Tst.dec (fun _ => ?_) (fun _ => ?_)) <;> first | (exfalso; omega) | (conv => whnf))
      | ((with_reducible refine Tst.not ?_))
      | (refine Wit.conv ⟨by omega, by omega⟩ ?_; conv => whnf)
      | ((with_reducible refine IdxV.nat (by omega) ?_); conv => whnf)
      | ((with_reducible refine SameW.mk rfl ?_); conv => whnf)
      | (refine LoadV.mem (i := 0) (by assumption) rfl rfl ?_; conv => whnf)
      | (refine LoadV.mem (i := 1) (by assumption) rfl rfl ?_; conv => whnf)
      | (refine LoadV.mem (i := 2) (by assumption) rfl rfl ?_; conv => whnf)
      | ((with_reducible refine Tst.beqT ?_))
      | ((with_reducible refine Tst.beqF ?_))
      | (refine Tst.yes rfl ?_; conv => whnf)
      | (refine Tst.no rfl ?_; conv => whnf)))
  have fsz : ∀ s ∈ n.f, (angT s).size ≤ 65538 := fun s hs => by
    obtain ⟨i, hi, rfl⟩ := List.getElem_of_mem hs
    have := (iriE_ok (h1 i hi).1).1
    simp only [angT, ByteArray.size_append]; show 1 + _ + 1 ≤ _; omega
  have hfl : n.f.length ≤ 100000 := by omega
  have hvl : n.v.length ≤ 100000 := by omega
  obtain ⟨O, hO⟩ : ∃ O, O = Obj.cells #[Value.int IntKind.i64 n.op, Value.string n.iri, Value.int IntKind.i64 n.a, Value.int IntKind.i64 n.b, Value.slice n.fA n.f.length n.fc, Value.slice n.vA n.v.length n.vc] 81 (0, 0) := ⟨_, rfl⟩
  rw [← hO] at hm
  have hlen : (notL n.f n.v).length = n.f.length + n.v.length := by simp [notL]
  have nsz : ∀ x ∈ notL n.f n.v, x.size ≤ 65539 := fun x hx => by
    rcases List.mem_append.1 hx with hx | hx
    · obtain ⟨s, hs, rfl⟩ := List.mem_map.1 hx
      have := fsz s hs; omega
    · obtain ⟨s, hs, rfl⟩ := List.mem_map.1 hx
      obtain ⟨i, hi, rfl⟩ := List.getElem_of_mem hs
      have := (iriE_ok (h2 i hi).1).1
      simp only [angT, ByteArray.size_append]; show 1 + (1 + _ + 1) ≤ _; omega
  have facts : ∀ A c w2, Rw w w2 (.slice A (n.f.length + n.v.length) c) 9 1 (n.f.length + n.v.length) ((n.f.map fun s => .string (angT s)) ++ (n.v.take n.v.length).map fun s => .string (bs [94] ++ angT s)) [] →
      ∃ g, A = some ⟨g, 0, none⟩ ∧ g < w2.heap.size ∧ n.f.length + n.v.length ≤ c ∧ CellsAt w2 g 0 ((notL n.f n.v).map Value.string) := fun A c w2 hR => by
    rw [List.take_of_length_le (Nat.le_refl _)] at hR
    have hvals : ((n.f.map fun s => Value.string (angT s)) ++ n.v.map fun s => Value.string (bs [94] ++ angT s)) = (notL n.f n.v).map Value.string := by
      simp [notL]; rfl
    rw [hvals] at hR
    obtain ⟨g, e, hg0, hg, hcap, hcells⟩ := hR.cells (by omega)
    exact ⟨g, e, hg, hcap, hcells⟩
  refine loopV (fun x : Nat × Option Addr × Nat => [(1, .pointer (some ⟨b, 0, none⟩)), (3, .slice x.2.1 x.1 x.2.2), (9, .slice n.fA n.f.length n.fc), (10, .int .i64 n.f.length), (11, .int .i64 x.1)])
    (fun x w2 => x.1 ≤ n.f.length ∧ Rw w w2 (.slice x.2.1 x.1 x.2.2) 9 1 x.1 ((n.f.take x.1).map fun s => .string (angT s)) [(b, O)])
    (fun x => n.f.length - x.1) (0, none, 0) ⟨rfl, rfl, rfl, rfl, rfl, trivial⟩ ⟨by simp, Rw.nil hm⟩ ?_
  rintro ⟨k, A, c⟩ w2 ρ' ⟨hk, hR⟩
  simp only at hk hR
  dsimp only
  (conv => whnf)
  (repeat' (first
      | (refine Obl.mk ⟨by omega, by omega⟩ ?_; conv => whnf)
      | (refine Obl.mk ⟨by omega, by omega, ⟨by omega, by omega⟩⟩ ?_; conv => whnf)
      | ((with_reducible refine Tst.tt ?_); conv => whnf)
      | ((with_reducible refine Tst.ff ?_); conv => whnf)
      | ((with_reducible refine Tst.dec (fun _ => ?_) (fun _ => ?_)) <;> first | (exfalso; omega) | (conv => whnf))
      | ((with_reducible refine Tst.not ?_))
      | (refine Wit.conv ⟨by omega, by omega⟩ ?_; conv => whnf)
      | ((with_reducible refine IdxV.nat (by omega) ?_); conv => whnf)
      | ((with_reducible refine SameW.mk rfl ?_); conv => whnf)
      | (refine LoadV.mem (i := 0) (by assumption) rfl rfl ?_; conv => whnf)
      | (refine LoadV.mem (i := 1) (by assumption) rfl rfl ?_; conv => whnf)
      | (refine LoadV.mem (i := 2) (by assumption) rfl rfl ?_; conv => whnf)
      | ((with_reducible refine Tst.beqT ?_))
      | ((with_reducible refine Tst.beqF ?_))
      | (refine Tst.yes rfl ?_; conv => whnf)
      | (refine Tst.no rfl ?_; conv => whnf)))
  · refine ElemV.sl (hn.fA.ext hR.mem.ext) rfl k rfl (by omega) ?_
    intro eb off hc
    have hlt : k < n.f.length := by omega
    (conv => whnf)
    refine LoadV.cell0 hc ?_
    (conv => whnf)
    have hiri := (h1 k hlt).1
    refine CallV.of (pathAngled_plain _ hiri _) ?_
    rintro v w3 ⟨rfl, he⟩
    (conv => whnf)
    refine NewV.rw (hR.call he) ?_
    intro nb w4 hR4
    (conv => whnf)
    refine AppV.str1 (i := _) (z := .string ⟨#[]⟩) Tryz.underlying37 (Option.some_get (by kernel_rfl)).symm (by kernel_rfl) (by kernel_rfl) rfl (by decide +kernel) hR4 rfl (by omega) ?_
    intro A' c' w5 hR5
    (conv => whnf)
    (repeat' (first
      | (refine Obl.mk ⟨by omega, by omega⟩ ?_; conv => whnf)
      | (refine Obl.mk ⟨by omega, by omega, ⟨by omega, by omega⟩⟩ ?_; conv => whnf)
      | ((with_reducible refine Tst.tt ?_); conv => whnf)
      | ((with_reducible refine Tst.ff ?_); conv => whnf)
      | ((with_reducible refine Tst.dec (fun _ => ?_) (fun _ => ?_)) <;> first | (exfalso; omega) | (conv => whnf))
      | ((with_reducible refine Tst.not ?_))
      | (refine Wit.conv ⟨by omega, by omega⟩ ?_; conv => whnf)
      | ((with_reducible refine IdxV.nat (by omega) ?_); conv => whnf)
      | ((with_reducible refine SameW.mk rfl ?_); conv => whnf)
      | (refine LoadV.mem (i := 0) (by assumption) rfl rfl ?_; conv => whnf)
      | (refine LoadV.mem (i := 1) (by assumption) rfl rfl ?_; conv => whnf)
      | (refine LoadV.mem (i := 2) (by assumption) rfl rfl ?_; conv => whnf)
      | ((with_reducible refine Tst.beqT ?_))
      | ((with_reducible refine Tst.beqF ?_))
      | (refine Tst.yes rfl ?_; conv => whnf)
      | (refine Tst.no rfl ?_; conv => whnf)))
    refine ⟨(k + 1, A', c'), ⟨rfl, rfl, rfl, rfl, rfl, trivial⟩, ⟨by simp only; omega, ?_⟩, by simp only; omega⟩
    simp only
    rw [List.take_succ_eq_append_getElem hlt, List.map_append]
    exact hR5
  · obtain rfl : k = n.f.length := by omega
    rw [List.take_of_length_le (Nat.le_refl _)] at hR
    subst hO
    refine LoadV.own (hR.mem.get (List.mem_cons_self ..)) rfl ?_
    (conv => whnf)
    (repeat' (first
      | (refine Obl.mk ⟨by omega, by omega⟩ ?_; conv => whnf)
      | (refine Obl.mk ⟨by omega, by omega, ⟨by omega, by omega⟩⟩ ?_; conv => whnf)
      | ((with_reducible refine Tst.tt ?_); conv => whnf)
      | ((with_reducible refine Tst.ff ?_); conv => whnf)
      | ((with_reducible refine Tst.dec (fun _ => ?_) (fun _ => ?_)) <;> first | (exfalso; omega) | (conv => whnf))
      | ((with_reducible refine Tst.not ?_))
      | (refine Wit.conv ⟨by omega, by omega⟩ ?_; conv => whnf)
      | ((with_reducible refine IdxV.nat (by omega) ?_); conv => whnf)
      | ((with_reducible refine SameW.mk rfl ?_); conv => whnf)
      | (refine LoadV.mem (i := 0) (by assumption) rfl rfl ?_; conv => whnf)
      | (refine LoadV.mem (i := 1) (by assumption) rfl rfl ?_; conv => whnf)
      | (refine LoadV.mem (i := 2) (by assumption) rfl rfl ?_; conv => whnf)
      | ((with_reducible refine Tst.beqT ?_))
      | ((with_reducible refine Tst.beqF ?_))
      | (refine Tst.yes rfl ?_; conv => whnf)
      | (refine Tst.no rfl ?_; conv => whnf)))
    refine loopV (fun x : Nat × Option Addr × Nat => [(3, .slice x.2.1 (n.f.length + x.1) x.2.2), (22, .slice n.vA n.v.length n.vc), (23, .int .i64 n.v.length), (24, .int .i64 x.1)])
      (fun x w2 => x.1 ≤ n.v.length ∧ Rw w w2 (.slice x.2.1 (n.f.length + x.1) x.2.2) 9 1 (n.f.length + x.1) ((n.f.map fun s => .string (angT s)) ++ (n.v.take x.1).map fun s => .string (bs [94] ++ angT s)) [])
      (fun x => n.v.length - x.1) (0, A, c) ⟨rfl, rfl, rfl, rfl, trivial⟩ ⟨by simp, by simpa using hR.tail⟩ ?_
    rintro ⟨k, A, c⟩ w2 ρ' ⟨hk, hR⟩
    simp only at hk hR
    dsimp only
    (conv => whnf)
    (repeat' (first
      | (refine Obl.mk ⟨by omega, by omega⟩ ?_; conv => whnf)
      | (refine Obl.mk ⟨by omega, by omega, ⟨by omega, by omega⟩⟩ ?_; conv => whnf)
      | ((with_reducible refine Tst.tt ?_); conv => whnf)
      | ((with_reducible refine Tst.ff ?_); conv => whnf)
      | ((with_reducible refine Tst.dec (fun _ => ?_) (fun _ => ?_)) <;> first | (exfalso; omega) | (conv => whnf))
      | ((with_reducible refine Tst.not ?_))
      | (refine Wit.conv ⟨by omega, by omega⟩ ?_; conv => whnf)
      | ((with_reducible refine IdxV.nat (by omega) ?_); conv => whnf)
      | ((with_reducible refine SameW.mk rfl ?_); conv => whnf)
      | (refine LoadV.mem (i := 0) (by assumption) rfl rfl ?_; conv => whnf)
      | (refine LoadV.mem (i := 1) (by assumption) rfl rfl ?_; conv => whnf)
      | (refine LoadV.mem (i := 2) (by assumption) rfl rfl ?_; conv => whnf)
      | ((with_reducible refine Tst.beqT ?_))
      | ((with_reducible refine Tst.beqF ?_))
      | (refine Tst.yes rfl ?_; conv => whnf)
      | (refine Tst.no rfl ?_; conv => whnf)))
    · refine ElemV.sl (hn.vA.ext hR.mem.ext) rfl k rfl (by omega) ?_
      intro eb off hc
      have hlt : k < n.v.length := by omega
      (conv => whnf)
      refine LoadV.cell0 hc ?_
      (conv => whnf)
      have hiri := (h2 k hlt).1
      have hsz := (iriE_ok hiri).1
      refine CallV.of (pathAngled_plain _ hiri _) ?_
      rintro v w3 ⟨rfl, he⟩
      (conv => whnf)
      refine ⟨by show (1 : Nat) + (bs [60] ++ _ ++ bs [62]).size ≤ _; rw [ByteArray.size_append, ByteArray.size_append]; show 1 + (1 + _ + 1) ≤ _; omega, ?_⟩
      (conv => whnf)
      refine NewV.rw (hR.call he) ?_
      intro nb w4 hR4
      (conv => whnf)
      refine AppV.str1 (i := _) (z := .string ⟨#[]⟩) Tryz.underlying37 (Option.some_get (by kernel_rfl)).symm (by kernel_rfl) (by kernel_rfl) rfl (by decide +kernel) hR4 rfl (by omega) ?_
      intro A' c' w5 hR5
      (conv => whnf)
      (repeat' (first
      | (refine Obl.mk ⟨by omega, by omega⟩ ?_; conv => whnf)
      | (refine Obl.mk ⟨by omega, by omega, ⟨by omega, by omega⟩⟩ ?_; conv => whnf)
      | ((with_reducible refine Tst.tt ?_); conv => whnf)
      | ((with_reducible refine Tst.ff ?_); conv => whnf)
      | ((with_reducible refine Tst.dec (fun _ => ?_) (fun _ => ?_)) <;> first | (exfalso; omega) | (conv => whnf))
      | ((with_reducible refine Tst.not ?_))
      | (refine Wit.conv ⟨by omega, by omega⟩ ?_; conv => whnf)
      | ((with_reducible refine IdxV.nat (by omega) ?_); conv => whnf)
      | ((with_reducible refine SameW.mk rfl ?_); conv => whnf)
      | (refine LoadV.mem (i := 0) (by assumption) rfl rfl ?_; conv => whnf)
      | (refine LoadV.mem (i := 1) (by assumption) rfl rfl ?_; conv => whnf)
      | (refine LoadV.mem (i := 2) (by assumption) rfl rfl ?_; conv => whnf)
      | ((with_reducible refine Tst.beqT ?_))
      | ((with_reducible refine Tst.beqF ?_))
      | (refine Tst.yes rfl ?_; conv => whnf)
      | (refine Tst.no rfl ?_; conv => whnf)))
      refine ⟨(k + 1, A', c'), ⟨rfl, rfl, rfl, rfl, trivial⟩, ⟨by simp only; omega, ?_⟩, by simp only; omega⟩
      simp only
      rw [List.take_succ_eq_append_getElem hlt, List.map_append, ← List.append_assoc, ← Nat.add_assoc]
      exact hR5
    · obtain rfl : k = n.v.length := by omega
      obtain ⟨g, rfl, hg, hcap, hcells⟩ := facts _ _ _ hR
      have h1' : n.f.length + n.v.length = 1 := by omega
      refine ElemV.own1 0 rfl (by omega) ?_
      (conv => whnf)
      obtain ⟨x, hx⟩ : ∃ x, notL n.f n.v = [x] := by
        match hL : notL n.f n.v, hlen.trans h1' with
        | [x], _ => exact ⟨x, rfl⟩
      have hxs := nsz x (by rw [hx]; simp)
      rw [hx] at hcells
      refine LoadV.cell0 hcells ?_
      (conv => whnf)
      refine ⟨by show (1 : Nat) + x.size ≤ _; omega, ?_⟩
      (conv => whnf)
      refine ⟨?_, hR.mem.ext⟩
      rw [notT, if_pos (by rw [hx]; rfl), hx]; rfl
    · obtain rfl : k = n.v.length := by omega
      obtain ⟨g, rfl, hg, hcap, hcells⟩ := facts _ _ _ hR
      have hjl : (Lib.join ((notL n.f n.v).map (·.data.toList)) [124]).length ≤ 100000 * 65540 := by
        refine Nat.le_trans (join_len_le _ _ 65539 fun x hx => ?_) ?_
        · obtain ⟨y, hy, rfl⟩ := List.mem_map.1 hx
          have := nsz y hy
          simpa using this
        · rw [List.length_map, hlen]
          exact Nat.mul_le_mul hl (Nat.le_refl _)
      have hj := Tryz.strings_Join g 0 c (notL n.f n.v) (bs [124]) w2 (fun j x hx => hcells j _ (by rw [List.getElem?_map, hx]; rfl)) hg (by omega) (by omega) (Nat.le_trans hjl (by decide))
      rw [hlen] at hj
      refine CallV.of (gv_of' (by kernel_rfl) (hj.mono ?_) : Gv Tryz.prog 124 _ _ (fun v w' => v = .string (joinT (notL n.f n.v) [124]) ∧ Ext w2 w')) ?_
      · rintro e w' ⟨rfl, h⟩
        exact ⟨_, rfl, rfl, h⟩
      rintro v w3 ⟨rfl, he⟩
      have hjs : (joinT (notL n.f n.v) [124]).size ≤ 100000 * 65540 := hjl
      (conv => whnf)
      refine ⟨by show (2 : Nat) + (joinT _ _).size ≤ _; omega, ?_⟩
      (conv => whnf)
      refine ⟨by show (_ : ByteArray).size + 1 ≤ _; rw [ByteArray.size_append]; show 2 + (joinT _ _).size + 1 ≤ _; omega, ?_⟩
      (conv => whnf)
      refine ⟨?_, hR.mem.ext.trans he⟩
      rw [notT, if_neg (by omega)]; rfl
end Go.Proofs.YtajgbepghniciaaGreatDoor
