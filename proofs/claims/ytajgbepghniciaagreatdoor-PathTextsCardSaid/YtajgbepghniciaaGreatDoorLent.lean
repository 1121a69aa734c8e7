/- The law PathTexts: lent. -/
import Derived.Test.YtajgbepghniciaaGreatDoorLaw
namespace Go.Proofs.YtajgbepghniciaaGreatDoor
open Go.RowKit V
set_option maxRecDepth 100000

namespace V
theorem heap_lt {w : World} {g : Nat} {o : Obj} (h : w.heap[g]? = some o) : g < w.heap.size := by
  rcases Nat.lt_or_ge g w.heap.size with h' | h'
  · exact h'
  · rw [Array.getElem?_eq_none h'] at h; cases h
theorem Loc.row (base b0 : Nat) (e : TypeId) (size n : Nat) (xs : List Value) : Loc base (fun v w => w.ownsRow b0 e size v n xs) := by
  intro v w w' h hb _
  refine ⟨h.1, ?_⟩
  rcases h.2 with h | ⟨g, cap, cur, rfl, h0, hg, hr⟩
  · exact .inl h
  · exact .inr ⟨g, cap, cur, rfl, h0, by rw [hb g (heap_lt hg) (.inr rfl)]; exact hg, hr⟩
theorem Loc.one {base : Nat} {t : TypeId} {xs : List Value} : Loc base (fun v w => ∃ g, v = .slice (some ⟨g, 0, none⟩) 1 1 ∧ ∃ cs, w.heap[g]? = some (.cells cs t (0, 0)) ∧ cs.toList = xs) := by
  rintro v w w' ⟨g, rfl, cs, h, h2⟩ hb _
  exact ⟨g, rfl, cs, by rw [hb g (heap_lt h) (.inr rfl)]; exact h, h2⟩
theorem Loc.cut {base m n : Nat} {t : TypeId} {xs : List Value} : Loc base (fun v w => ∃ g c cur, v = .slice (some ⟨g, 0, none⟩) m c ∧ n ≤ c ∧ w.heap[g]? = some (.cells cur t (0, 0)) ∧ cur.toList.take n = xs) := by
  rintro v w w' ⟨g, c, cur, rfl, h1, h, h2⟩ hb _
  exact ⟨g, c, cur, rfl, h1, by rw [hb g (heap_lt h) (.inr rfl)]; exact h, h2⟩
theorem ownsSl {w : World} {base : Nat} {e : TypeId} {size n : Nat} {v : Value} {xs : List Value} (h : w.ownsRow base e size v n xs) : ∃ B c, v = .slice B n c := by
  rcases h.2 with ⟨rfl, h'⟩ | ⟨g, cap, cur, rfl, _⟩
  · exact ⟨_, _, by rw [h']⟩
  · exact ⟨_, _, rfl⟩
theorem ownsCut {w : World} {base : Nat} {e : TypeId} {n : Nat} {v : Value} {xs : List Value} (h : w.ownsRow base e 1 v (n + 1) xs) :
    ∃ g cap cur, v = .slice (some ⟨g, 0, none⟩) (n + 1) cap ∧ base ≤ g ∧ w.heap[g]? = some (.cells cur e (0, 0)) ∧ n + 1 ≤ cap ∧ cur.toList.take (n + 1) = xs := by
  rcases h.2 with ⟨_, h'⟩ | ⟨g, cap, cur, h1, h2, h3, h4, _, _, h5⟩
  · omega
  · exact ⟨g, cap, cur, h1, h2, h3, h4, by rwa [Nat.mul_one] at h5⟩
theorem SliceV.head {size g off n cap m : Nat} {hi : Option Value} {K : Value → Prop} (hm : m ≤ cap) (hb : bnd hi n m) (hk : K (.slice (some ⟨g, off, none⟩) m cap)) : SliceV size (some ⟨g, off, none⟩) n cap none hi none K := by
  refine ⟨0, m, cap, rfl, hb, rfl, by omega, by omega, by omega, fun h => by simp at h, fun A' hA' => ?_⟩
  subst hA'
  have e : (if cap = 0 then some (⟨g, off, none⟩ : Addr) else (some (⟨g, off, none⟩ : Addr)).map (·.add (0 * size))) = some ⟨g, off, none⟩ := by
    split
    · rfl
    · rw [Nat.zero_mul]; rfl
  rw [e]
  exact hk
/-- a new slice of no element -/
theorem PostO.new {w : World} {B : List (Option Nat)} {φ : Value → World → Prop} {b : Nat} {w' : World} {n c : Nat} {o : Obj} (hb : b = w.heap.size) (hw : w' = w.alloc o) (hφ : φ (.slice (some ⟨b, 0, none⟩) n c) w') :
    PostO w B false φ (.slice (some ⟨b, 0, none⟩) n c) w' := by
  subst hb hw
  refine ⟨Chg.ext ((Ext.refl w).alloc o), hφ, fun _ g hg => ?_⟩
  cases hg
  exact ⟨heap_lt (heap_alloc_new w o), .inr (Nat.le_refl _)⟩
theorem PostO.still {w w' : World} {B : List (Option Nat)} {v c : Value} (he : Ext w w') (h : v = c) : PostO w B true (fun u _ => u = c) v w' := ⟨Chg.ext he, h, fun h => by cases h⟩
/-- append to a row of one's own -/
theorem AppV.own {P : Program} {base e size : Nat} {w : World} {v : Value} {n : Nat} {xs : List Value} {t ty : TypeId} {i : TypeInfo} {z : Value} {A : Option Addr} {m c : Nat} {news : List Value} {K : Value → World → Prop} (ht : P.underlying t = some (.slice e)) (hi : P.info? e = some i) (hz : i.zero = some z)
    (hsize : i.size = size) (hzs : z.cells.size = size) (hsz : 0 < size) (h : w.ownsRow base e size v n xs) (hbw : base ≤ w.heap.size) (hl : news.length = m * size)
    (hA : news ≠ [] → ∃ b off, A = some ⟨b, off, none⟩ ∧ CellsAt w b off news) (h1 : ∀ u ∈ news, u.oneCell' = true) (hb : (n + m) * i.bytes ≤ 140737488355328) (h63 : n + m ≤ 140737488355328)
    (hk : ∀ v' w', w'.ownsRow base e size v' (n + m) (xs ++ news) → w.grownBy w' v.ownBlock → (v'.ownBlock = v.ownBlock ∨ v'.ownBlock = some w.heap.size) → K v' w') : AppV P #[t, t] ty v (.slice A m c) w K := by
  cases A with
  | none =>
    have hn : news = [] := by
      cases hnn : news with
      | nil => rfl
      | cons x r => obtain ⟨b, off, h0, _⟩ := hA (by rw [hnn]; simp); cases h0
    subst hn
    have hm : m = 0 := by
      rcases Nat.mul_eq_zero.1 (show m * size = 0 by simpa using hl.symm) with h | h
      · exact h
      · omega
    subst hm
    refine ⟨v, w, ?_, hk v w (by simpa using h) ⟨rfl, rfl, rfl, Nat.le_refl _, fun _ _ _ => rfl⟩ (.inl rfl)⟩
    rcases h.2 with ⟨e1, e2⟩ | ⟨g, cap, cur, e1, _, _, hnc, _⟩
    · subst e1; simp [Builtin.append_, run_underlying ht, sizeOf, typeInfo, hi, Builtin.lenOf, Builtin.firstCells]
    · subst e1; simp [Builtin.append_, run_underlying ht, sizeOf, typeInfo, hi, Builtin.lenOf, Builtin.firstCells, hnc, storeCells]
  | some a =>
    have hcells : ∀ j u, news[j]? = some u → w.cell? (a.add j) = some u := by
      intro j u hu
      obtain ⟨b, off, h0, h1⟩ := hA (by intro e; rw [e] at hu; simp at hu)
      cases h0
      rw [add_plain]; exact h1 j u hu
    obtain ⟨v', w', hrun, h2, h3, _, h5⟩ := run_append_own_at (P := P) w base t ty e i z size i.bytes ht hi hz hsize rfl hzs hsz v n xs h a m c news hl hcells h1 (by simp only [maxLen]; omega) hb hbw
    exact ⟨v', w', hrun, hk v' w' h2 h3 h5⟩
theorem PostO.grown {w w' : World} {B : List (Option Nat)} {φ : Value → World → Prop} {base e size n : Nat} {v v' : Value} {xs : List Value} (ho : w'.ownsRow base e size v' n xs) (hg : w.grownBy w' v.ownBlock) (hor : v'.ownBlock = v.ownBlock ∨ v'.ownBlock = some w.heap.size)
    (hB : ∀ k, v.ownBlock = some k → some k ∈ B) (hφ : φ v' w') : PostO w B false φ v' w' := by
  refine ⟨Chg.grown hg ?_, hφ, fun _ g h => ⟨(ho.lt g h).2, ?_⟩⟩
  · cases hv : v.ownBlock with
    | none => exact .inr rfl
    | some k => exact .inl (hB k hv)
  · rcases hor with hor | hor
    · exact .inl (hB g (hor ▸ h))
    · rw [h] at hor; cases hor; exact .inr (Nat.le_refl _)
theorem SlAt.cells {w : World} {A : Option Addr} {l : List ByteArray} (h : SlAt encS 1 w A l) (hn : l.map Value.string ≠ []) : ∃ b off, A = some ⟨b, off, none⟩ ∧ CellsAt w b off (l.map Value.string) := by
  obtain ⟨b, off, h1, h2⟩ := h.at_ (by intro e; rw [e] at hn; exact hn rfl)
  refine ⟨b, off, h1, fun k v hv => ?_⟩
  rw [List.getElem?_map] at hv
  obtain ⟨x, hx, rfl⟩ := Option.map_eq_some_iff.1 hv
  have := h2 k x hx 0 (.string x) rfl
  simpa using this
theorem Mem.add {w0 w : World} {L : List (Nat × Obj)} {g : Nat} {o : Obj} (h : Mem w0 w L) (hg : w.heap[g]? = some o) (h0 : w0.heap.size ≤ g) (hlt : ∀ x ∈ L, x.1 < g) : Mem w0 w ((g, o) :: L) := by
  refine ⟨h.ext, fun x hx => ?_, ?_⟩
  · rcases List.mem_cons.1 hx with rfl | hx
    · exact ⟨h0, hg⟩
    · exact h.own x hx
  · simp only [List.map_cons, List.nodup_cons]
    refine ⟨fun hm => ?_, h.nodup⟩
    obtain ⟨x, hx, e⟩ := List.mem_map.1 hm
    have := hlt x hx; omega
theorem Mem.addO {w0 w w' : World} {L : List (Nat × Obj)} {g : Nat} {o : Obj} (h : Mem w0 w L) (hd : Ext w.drew w') (hg : w'.heap[g]? = some o) (h0 : w.drew.heap.size ≤ g) : Mem w0 w' ((g, o) :: L) :=
  (h.drew.call hd).add hg (Nat.le_trans h.ext.size h0) fun x hx => Nat.lt_of_lt_of_le (h.lt (b := x.1) (o := x.2) hx) h0
end V
/-- what holds behind the end -/
def holder : ByteArray := ⟨#[104, 111, 108, 100, 101, 114]⟩
structure RowOk (R : List (Nat × Obj)) (A : Option Addr) (c : Nat) (l : List ByteArray) : Prop where
  h : ∃ g cur, A = some ⟨g, 0, none⟩ ∧ l.length + 1 ≤ c ∧ (g, Obj.cells cur 9 (0, 0)) ∈ R ∧ cur.toList.take (l.length + 1) = l.map Value.string ++ [.string holder]
structure LentN (R : List (Nat × Obj)) (n q : PN) : Prop where
  same : SameN n q
  f : RowOk R q.fA q.fc q.f
  v : RowOk R q.vA q.vc q.v
def zeroN : List Value := [.int .i64 0, .string ⟨#[]⟩, .int .i64 0, .int .i64 0, .slice none 0 0, .slice none 0 0]

theorem RowOk.mono {R R' : List (Nat × Obj)} {A : Option Addr} {c : Nat} {l : List ByteArray} (h : RowOk R A c l) (hs : ∀ x ∈ R, x ∈ R') : RowOk R' A c l := by
  obtain ⟨g, cur, h1, h2, h3, h4⟩ := h
  exact ⟨g, cur, h1, h2, hs _ h3, h4⟩
theorem LentN.mono {R R' : List (Nat × Obj)} {n q : PN} (h : LentN R n q) (hs : ∀ x ∈ R, x ∈ R') : LentN R' n q := ⟨h.same, h.f.mono hs, h.v.mono hs⟩
theorem zerosL_len (k : Nat) : (zerosL zeroN k).length = k * 6 := zerosL_length zeroN k
theorem flat_len (q : List PN) : (q.flatMap encN).length = q.length * 6 := by
  induction q with
  | nil => rfl
  | cons m q ih => rw [List.flatMap_cons, List.length_append, ih]; simp [encN]; omega
theorem lent_room {qs : List PN} {n : PN} {m : Nat} (h : qs.length < m) : qs.length * 6 + (encN n).length ≤ (qs.flatMap encN ++ zerosL zeroN (m + 1 - qs.length)).toArray.size := by
  simp only [List.size_toArray, List.length_append, flat_len, zerosL_len]
  simp only [encN, List.length_cons, List.length_nil]
  omega
theorem lent_row {qs : List PN} {n : PN} {m : Nat} (h : qs.length < m) : ((qs ++ [n]).flatMap encN ++ zerosL zeroN (m + 1 - (qs ++ [n]).length)).toArray =
    ((qs.flatMap encN ++ zerosL zeroN (m + 1 - qs.length)).toArray.toList.take (qs.length * 6) ++ encN n ++ (qs.flatMap encN ++ zerosL zeroN (m + 1 - qs.length)).toArray.toList.drop (qs.length * 6 + (encN n).length)).toArray := by
  have e : m + 1 - qs.length = (m + 1 - (qs ++ [n]).length) + 1 := by simp; omega
  have e2 : zerosL zeroN (m + 1 - qs.length) = zeroN ++ zerosL zeroN (m + 1 - (qs ++ [n]).length) := by rw [e]; rfl
  rw [List.toList_toArray, e2, ← flat_len qs, List.take_left, List.drop_append, List.drop_eq_nil_of_le (Nat.le_add_right _ _), Nat.add_sub_cancel_left, List.flatMap_append]
  simp [encN, zeroN]
theorem lent_room2 {qs : List PN} {m : Nat} (h : qs.length = m) : m * 6 + 6 ≤ (qs.flatMap encN ++ zerosL zeroN (m + 1 - qs.length)).toArray.size := by
  simp only [List.size_toArray, List.length_append, flat_len, zerosL_len]
  omega
theorem lent_row2 {qs : List PN} {m : Nat} (h : qs.length = m) : (qs.flatMap encN ++ ([Value.int .i64 77] ++ zeroN.drop 1)).toArray =
    ((qs.flatMap encN ++ zerosL zeroN (m + 1 - qs.length)).toArray.toList.take (m * 6) ++ ([Value.int .i64 77] ++ zeroN.drop 1) ++ (qs.flatMap encN ++ zerosL zeroN (m + 1 - qs.length)).toArray.toList.drop (m * 6 + 6)).toArray := by
  subst h
  have e2 : zerosL zeroN (qs.length + 1 - qs.length) = zeroN := by
    rw [Nat.add_sub_cancel_left]; rfl
  rw [List.toList_toArray, e2, ← flat_len qs, List.take_left, List.drop_append, List.drop_eq_nil_of_le (Nat.le_add_right _ _), Nat.add_sub_cancel_left]
  simp [zeroN]

set_option maxHeartbeats 4000000 in
theorem lent_any (p : List PN) (A : Option Addr) (c : Nat) (w : World) (hp : PathAt w A p) :
    Gv Tryz.prog 7 [.slice A p.length c] w fun v w' => ∃ (ob : Nat) (q : List PN) (R : List (Nat × Obj)), v = .slice (some ⟨ob, 0, none⟩) p.length (p.length + 1) ∧ q.length = p.length ∧ (∀ k (h : k < p.length) (h' : k < q.length), LentN R p[k] q[k]) ∧
      Mem w w' ((ob, .cells (q.flatMap encN ++ ([Value.int .i64 77] ++ zeroN.drop 1)).toArray 81 (0, 0)) :: R) := by
  have hl := hp.len
  refine gv (by kernel_rfl) Tryz.func7 rfl Tryz.ntmps7 rfl ?_; conv => whnf
  (repeat' (first
      | (refine Obl.mk ⟨by omega, by omega⟩ ?_; conv => whnf)
      | (refine Obl.mk ⟨by omega, by omega, ⟨by omega, by omega⟩⟩ ?_; conv => whnf)
      | ((with_reducible refine Tst.tt ?_); conv => whnf)
      | ((with_reducible refine Tst.ff ?_); conv => whnf)
      | ((with_reducible refine Tst.dec (fun _ => ?_) (fun _ => ?_)) <;> first | (exfalso; omega) | (conv => whnf))
      | ((with_reducible refine Tst.not ?_))
      | (refine Wit.conv ⟨by omega, by omega⟩ ?_; conv => whnf)
      | ((with_reducible refine IdxV.nat (by omega) ?_); conv => whnf)
      | ((with_reducible refine SameW.mk rfl ?_); conv => whnf)
      | (refine LoadV.mem (i := 0) (by assumption) rfl rfl ?_; conv => whnf)
      | (refine LoadV.mem (i := 1) (by assumption) rfl rfl ?_; conv => whnf)
      | (refine LoadV.mem (i := 2) (by assumption) rfl rfl ?_; conv => whnf)
      | ((with_reducible refine Tst.beqT ?_))
      | ((with_reducible refine Tst.beqF ?_))
      | (refine Tst.yes rfl ?_; conv => whnf)
      | (refine Tst.no rfl ?_; conv => whnf)))
  refine ⟨p.length + 1, p.length + 1, by omega, by omega, by omega, show (p.length + 1) * 88 ≤ 140737488355328 by omega, by omega, ?_⟩
  intro ob w1 hob hw1
  have hm : Mem w w1 [(ob, .cells (zerosL zeroN (p.length + 1)).toArray 81 (0, 0))] := (Mem.nil w).new hob hw1
  clear hob hw1
  (conv => whnf)
  refine loopV (fun x : List PN × List (Nat × Obj) => [(0, .slice A p.length c), (3, .slice (some ⟨ob, 0, none⟩) (p.length + 1) (p.length + 1)), (4, .int .i64 x.1.length)])
    (fun x w2 => x.1.length ≤ p.length ∧ (∀ k (h : k < p.length) (h' : k < x.1.length), LentN x.2 p[k] x.1[k]) ∧ Mem w w2 ((ob, .cells (x.1.flatMap encN ++ zerosL zeroN (p.length + 1 - x.1.length)).toArray 81 (0, 0)) :: x.2))
    (fun x => p.length - x.1.length) ([], []) ⟨rfl, rfl, rfl, trivial⟩ ⟨by simp, by simp, by simpa using hm⟩ ?_
  rintro ⟨qs, R⟩ w2 ρ' ⟨h1, h2, hm⟩
  simp only at h1 h2 hm
  dsimp only
  (conv => whnf)
  (repeat' (first
      | (refine Obl.mk ⟨by omega, by omega⟩ ?_; conv => whnf)
      | (refine Obl.mk ⟨by omega, by omega, ⟨by omega, by omega⟩⟩ ?_; conv => whnf)
      | ((with_reducible refine Tst.tt ?_); conv => whnf)
      | ((with_reducible refine Tst.ff ?_); conv => whnf)
      | ((with_reducible refine Tst.dec (fun _ => ?_) (fun _ => ?_)) <;> first | (exfalso; omega) | (conv => whnf))
      | ((with_reducible refine Tst.not ?_))
      | (refine Wit.conv ⟨by omega, by omega⟩ ?_; conv => whnf)
      | ((with_reducible refine IdxV.nat (by omega) ?_); conv => whnf)
      | ((with_reducible refine SameW.mk rfl ?_); conv => whnf)
      | (refine LoadV.mem (i := 0) (by assumption) rfl rfl ?_; conv => whnf)
      | (refine LoadV.mem (i := 1) (by assumption) rfl rfl ?_; conv => whnf)
      | (refine LoadV.mem (i := 2) (by assumption) rfl rfl ?_; conv => whnf)
      | ((with_reducible refine Tst.beqT ?_))
      | ((with_reducible refine Tst.beqF ?_))
      | (refine Tst.yes rfl ?_; conv => whnf)
      | (refine Tst.no rfl ?_; conv => whnf)))
  · have hil : qs.length < p.length := by omega
    obtain ⟨n, hn⟩ : ∃ n, n = p[qs.length] := ⟨_, rfl⟩
    have hnok : NodeOk w n := hn ▸ hp.ok _ (List.getElem_mem hil)
    have hfew := hn ▸ hp.few _ (List.getElem_mem hil)
    refine ElemV.sl (hp.sl.ext hm.ext) rfl qs.length rfl hil ?_
    intro eb off hc
    rw [← hn] at hc
    (conv => whnf)
    refine LoadA.cells hc rfl ?_
    (conv => whnf)
    refine NewV.mem hm ?_
    intro nb w3 hm
    (conv => whnf)
    refine StoreA.mem hm (i := 0) rfl (Nat.le_refl 6) (fun v hv => by simp at hv; rcases hv with rfl | rfl | rfl | rfl | rfl | rfl <;> rfl) ?_
    intro w4 hm
    obtain ⟨arr, harr⟩ : ∃ arr, arr = Obj.cells (qs.flatMap encN ++ zerosL zeroN (p.length + 1 - qs.length)).toArray 81 (0, 0) := ⟨_, rfl⟩
    rw [← harr] at hm
    replace hm : Mem w w4 ((nb, .cells (encN n).toArray 81 (0, 0)) :: (ob, arr) :: R) := hm
    have hnok4 := hnok.ext hm.ext
    (conv => whnf)
    refine DrawV.own rfl (by kernel_rfl) ?_
    (conv => whnf)
    apply StepO.of (some 3) (fun v w' => w'.ownsRow w4.drew.heap.size 9 1 v 0 []) (Loc.row _ _ _ _ _ _)
    · intro wd hd
      (conv => whnf)
      refine ⟨fun b w' hb hw => PostO.new hb hw ⟨rfl, .inr ⟨b, 0, #[], rfl, ?_, ?_, Nat.le_refl _, by simp only [maxLen]; omega, rfl, rfl⟩⟩⟩
      · rw [hb]; exact hd.size
      · rw [hb, hw]; exact heap_alloc_new _ _
    (conv => whnf)
    (apply StepO.still; (· intro wd hd; (conv => whnf); (repeat (intro _; (conv => whnf))); (first | exact PostO.still (Ext.refl _) rfl | ((repeat' (first | (refine Obl.mk ⟨by omega, by omega⟩ ?_; conv => whnf) | (refine Obl.mk ⟨by omega, by omega, ⟨by omega, by omega⟩⟩ ?_; conv => whnf) | ((with_reducible refine Tst.tt ?_); conv => whnf) | ((with_reducible refine Tst.ff ?_); conv => whnf) | ((with_reducible refine Tst.dec (fun _ => ?_) (fun _ => ?_)) <;> first | (exfalso; omega) | (conv => whnf)) | ((with_reducible refine Tst.not ?_)) | (refine Wit.conv ⟨by omega, by omega⟩ ?_; conv => whnf) | ((with_reducible refine IdxV.nat (by omega) ?_); conv => whnf) | ((with_reducible refine SameW.mk rfl ?_); conv => whnf) | ((with_reducible refine Tst.beqT ?_)) | ((with_reducible refine Tst.beqF ?_)) | (refine Tst.yes rfl ?_; conv => whnf) | (refine Tst.no rfl ?_; conv => whnf))); exact PostO.still (Ext.refl _) rfl))); (conv => whnf))
    (apply StepO.still; (· intro wd hd; (conv => whnf); (repeat' (first | (refine Obl.mk ⟨by omega, by omega⟩ ?_; conv => whnf) | (refine Obl.mk ⟨by omega, by omega, ⟨by omega, by omega⟩⟩ ?_; conv => whnf) | ((with_reducible refine Tst.tt ?_); conv => whnf) | ((with_reducible refine Tst.ff ?_); conv => whnf) | ((with_reducible refine Tst.dec (fun _ => ?_) (fun _ => ?_)) <;> first | (exfalso; omega) | (conv => whnf)) | ((with_reducible refine Tst.not ?_)) | (refine Wit.conv ⟨by omega, by omega⟩ ?_; conv => whnf) | ((with_reducible refine IdxV.nat (by omega) ?_); conv => whnf) | ((with_reducible refine SameW.mk rfl ?_); conv => whnf) | ((with_reducible refine Tst.beqT ?_)) | ((with_reducible refine Tst.beqF ?_)) | (refine Tst.yes rfl ?_; conv => whnf) | (refine Tst.no rfl ?_; conv => whnf))); refine LoadV.mem (Mem.call (Mem.drew hm) hd) (i := 0) rfl rfl ?_; (conv => whnf); exact PostO.still (Ext.refl _) rfl); (conv => whnf))
    apply StepO.of (some 5) (fun v w' => w'.ownsRow w4.drew.heap.size 9 1 v n.f.length (n.f.map Value.string)) (Loc.row _ _ _ _ _ _)
    · intro wd hd
      (conv => whnf)
      intro v hv hg
      obtain ⟨B0, c0, rfl⟩ : ∃ B c, v = .slice B 0 c := by
        rcases hv.2 with ⟨rfl, _⟩ | ⟨g, cap, cur, rfl, _⟩
        · exact ⟨_, _, rfl⟩
        · exact ⟨_, _, rfl⟩
      (conv => whnf)
      refine AppV.own (size := 1) rfl rfl rfl rfl rfl (by decide) hv (Nat.le_of_lt_succ (Nat.lt_succ_of_le hd.size)) (by rw [List.length_map]; exact (Nat.mul_one _).symm) (fun h => (hnok4.fA.ext ((Ext.refl w4).drew.trans hd)).cells h) (fun u hu => by
        obtain ⟨x, _, rfl⟩ := List.mem_map.1 hu
        rfl) (show (0 + n.f.length) * 16 ≤ 140737488355328 by omega) (by omega) ?_
      intro v' w' ho hg2 hor
      rw [force_eq]
      exact PostO.grown ho hg2 hor (fun k hk => by show some k ∈ [Value.ownBlock (.slice B0 0 c0)]; rw [← hk]; exact List.mem_singleton.2 rfl) (by simpa using ho)
    (conv => whnf)
    apply StepO.of none (fun v w' => ∃ g, v = .slice (some ⟨g, 0, none⟩) 1 1 ∧ ∃ cs, w'.heap[g]? = some (.cells cs 9 (0, 0)) ∧ cs.toList = [.string holder]) Loc.one
    · intro wd hd
      (conv => whnf)
      exact ⟨fun b w' hb hw => PostO.new hb hw ⟨b, rfl, #[.string holder], by rw [hb, hw]; exact heap_alloc_new _ _, rfl⟩⟩
    (conv => whnf)
    apply StepO.of (some 9) (fun v w' => w'.ownsRow w4.drew.heap.size 9 1 v (n.f.length + 1) (n.f.map Value.string ++ [.string holder])) (Loc.row _ _ _ _ _ _)
    · intro wd hd
      (conv => whnf)
      intro _ _ _
      (conv => whnf)
      rintro v4 ⟨g4, rfl, cs4, h4, h4'⟩ hg4
      (conv => whnf)
      intro v hv hg
      obtain ⟨B0, c0, rfl⟩ := ownsSl hv
      (conv => whnf)
      refine AppV.own (size := 1) (news := [.string holder]) (by rfl) (by rfl) (by rfl) (by rfl) (by rfl) (by decide) hv (Nat.le_of_lt_succ (Nat.lt_succ_of_le hd.size)) rfl (fun _ => ⟨g4, 0, rfl, fun k u hu => ?_⟩) (fun u hu => by
        rw [List.mem_singleton.1 hu]; rfl) (by show (n.f.length + 1) * 16 ≤ 140737488355328; omega) (by omega) ?_
      · rw [cell_heap h4, Nat.zero_add, ← Array.getElem?_toList, h4']; exact hu
      intro v' w' ho hg2 hor
      rw [force_eq]
      exact PostO.grown ho hg2 hor (fun k hk => by show some k ∈ Value.ownBlock (.slice B0 n.f.length c0) :: _; rw [← hk]; exact List.mem_cons_self ..) ho
    (conv => whnf)
    (apply StepO.still; (· intro wd hd; (conv => whnf); (repeat (intro _; (conv => whnf))); (first | exact PostO.still (Ext.refl _) rfl | ((repeat' (first | (refine Obl.mk ⟨by omega, by omega⟩ ?_; conv => whnf) | (refine Obl.mk ⟨by omega, by omega, ⟨by omega, by omega⟩⟩ ?_; conv => whnf) | ((with_reducible refine Tst.tt ?_); conv => whnf) | ((with_reducible refine Tst.ff ?_); conv => whnf) | ((with_reducible refine Tst.dec (fun _ => ?_) (fun _ => ?_)) <;> first | (exfalso; omega) | (conv => whnf)) | ((with_reducible refine Tst.not ?_)) | (refine Wit.conv ⟨by omega, by omega⟩ ?_; conv => whnf) | ((with_reducible refine IdxV.nat (by omega) ?_); conv => whnf) | ((with_reducible refine SameW.mk rfl ?_); conv => whnf) | ((with_reducible refine Tst.beqT ?_)) | ((with_reducible refine Tst.beqF ?_)) | (refine Tst.yes rfl ?_; conv => whnf) | (refine Tst.no rfl ?_; conv => whnf))); exact PostO.still (Ext.refl _) rfl))); (conv => whnf))
    (apply StepO.still; (· intro wd hd; (conv => whnf); (repeat' (first | (refine Obl.mk ⟨by omega, by omega⟩ ?_; conv => whnf) | (refine Obl.mk ⟨by omega, by omega, ⟨by omega, by omega⟩⟩ ?_; conv => whnf) | ((with_reducible refine Tst.tt ?_); conv => whnf) | ((with_reducible refine Tst.ff ?_); conv => whnf) | ((with_reducible refine Tst.dec (fun _ => ?_) (fun _ => ?_)) <;> first | (exfalso; omega) | (conv => whnf)) | ((with_reducible refine Tst.not ?_)) | (refine Wit.conv ⟨by omega, by omega⟩ ?_; conv => whnf) | ((with_reducible refine IdxV.nat (by omega) ?_); conv => whnf) | ((with_reducible refine SameW.mk rfl ?_); conv => whnf) | ((with_reducible refine Tst.beqT ?_)) | ((with_reducible refine Tst.beqF ?_)) | (refine Tst.yes rfl ?_; conv => whnf) | (refine Tst.no rfl ?_; conv => whnf))); refine LoadV.mem (Mem.call (Mem.drew hm) hd) (i := 0) rfl rfl ?_; (conv => whnf); exact PostO.still (Ext.refl _) rfl); (conv => whnf))
    (apply StepO.still; (· intro wd hd; (conv => whnf); (repeat (intro _; (conv => whnf))); (first | exact PostO.still (Ext.refl _) rfl | ((repeat' (first | (refine Obl.mk ⟨by omega, by omega⟩ ?_; conv => whnf) | (refine Obl.mk ⟨by omega, by omega, ⟨by omega, by omega⟩⟩ ?_; conv => whnf) | ((with_reducible refine Tst.tt ?_); conv => whnf) | ((with_reducible refine Tst.ff ?_); conv => whnf) | ((with_reducible refine Tst.dec (fun _ => ?_) (fun _ => ?_)) <;> first | (exfalso; omega) | (conv => whnf)) | ((with_reducible refine Tst.not ?_)) | (refine Wit.conv ⟨by omega, by omega⟩ ?_; conv => whnf) | ((with_reducible refine IdxV.nat (by omega) ?_); conv => whnf) | ((with_reducible refine SameW.mk rfl ?_); conv => whnf) | ((with_reducible refine Tst.beqT ?_)) | ((with_reducible refine Tst.beqF ?_)) | (refine Tst.yes rfl ?_; conv => whnf) | (refine Tst.no rfl ?_; conv => whnf))); exact PostO.still (Ext.refl _) rfl))); (conv => whnf))
    apply StepO.of none (fun v w' => ∃ g c cur, v = .slice (some ⟨g, 0, none⟩) n.f.length c ∧ n.f.length + 1 ≤ c ∧ w'.heap[g]? = some (.cells cur 9 (0, 0)) ∧ cur.toList.take (n.f.length + 1) = n.f.map Value.string ++ [.string holder]) Loc.cut
    · intro wd hd
      (conv => whnf)
      intro v hv hg
      obtain ⟨g, cap, cur, rfl, hge, hh, hcap, hcur⟩ := ownsCut hv
      (conv => whnf)
      refine SliceV.head (m := n.f.length) (by omega) rfl ?_
      refine ⟨Chg.ext (Ext.refl _), ⟨g, cap, cur, rfl, hcap, hh, hcur⟩, fun _ g' h' => ?_⟩
      cases h'
      exact ⟨heap_lt hh, .inl (by show some g ∈ [Value.ownBlock (.slice (some ⟨g, 0, none⟩) (n.f.length + 1) cap)]; exact List.mem_singleton.2 rfl)⟩
    (conv => whnf)
    (apply StepO.still; (· intro wd hd; (conv => whnf); (repeat (intro _; (conv => whnf))); (first | exact PostO.still (Ext.refl _) rfl | ((repeat' (first | (refine Obl.mk ⟨by omega, by omega⟩ ?_; conv => whnf) | (refine Obl.mk ⟨by omega, by omega, ⟨by omega, by omega⟩⟩ ?_; conv => whnf) | ((with_reducible refine Tst.tt ?_); conv => whnf) | ((with_reducible refine Tst.ff ?_); conv => whnf) | ((with_reducible refine Tst.dec (fun _ => ?_) (fun _ => ?_)) <;> first | (exfalso; omega) | (conv => whnf)) | ((with_reducible refine Tst.not ?_)) | (refine Wit.conv ⟨by omega, by omega⟩ ?_; conv => whnf) | ((with_reducible refine IdxV.nat (by omega) ?_); conv => whnf) | ((with_reducible refine SameW.mk rfl ?_); conv => whnf) | ((with_reducible refine Tst.beqT ?_)) | ((with_reducible refine Tst.beqF ?_)) | (refine Tst.yes rfl ?_; conv => whnf) | (refine Tst.no rfl ?_; conv => whnf))); exact PostO.still (Ext.refl _) rfl))); (conv => whnf))
    intro w5 hd
    (conv => whnf)
    rintro v ⟨gf, cf, curf, rfl, hcf, hhf, htf⟩ hgf
    (conv => whnf)
    (repeat (intro _; (conv => whnf)))
    replace hm := Mem.addO hm hd hhf (hgf gf rfl).1
    refine StoreV.mem hm (i := 1) rfl (show 4 < 6 by decide) rfl ?_
    intro w6 hm
    obtain ⟨n1, hn1⟩ : ∃ n1 : PN, n1 = { n with fA := some ⟨gf, 0, none⟩, fc := cf } := ⟨_, rfl⟩
    replace hm : Mem w w6 ((gf, .cells curf 9 (0, 0)) :: (nb, .cells (encN n1).toArray 81 (0, 0)) :: (ob, arr) :: R) := by rw [hn1]; exact hm
    have hv6 : SlAt encS 1 w6 n1.vA n1.v := by rw [hn1]; exact hnok.vA.ext hm.ext
    have hfew1 : n1.v.length ≤ 100000 := by rw [hn1]; simp only; omega
    have hn1f : n1.f = n.f := by rw [hn1]
    have hn1A : n1.fA = some ⟨gf, 0, none⟩ := by rw [hn1]
    have hn1c : n1.fc = cf := by rw [hn1]
    have hs1 : SameN n n1 := by rw [hn1]; exact ⟨rfl, rfl, rfl, rfl, rfl, rfl⟩
    (conv => whnf)
    refine DrawV.own rfl (by kernel_rfl) ?_
    (conv => whnf)
    apply StepO.of (some 3) (fun v w' => w'.ownsRow w6.drew.heap.size 9 1 v 0 []) (Loc.row _ _ _ _ _ _)
    · intro wd hd
      (conv => whnf)
      refine ⟨fun b w' hb hw => PostO.new hb hw ⟨rfl, .inr ⟨b, 0, #[], rfl, ?_, ?_, Nat.le_refl _, by simp only [maxLen]; omega, rfl, rfl⟩⟩⟩
      · rw [hb]; exact hd.size
      · rw [hb, hw]; exact heap_alloc_new _ _
    (conv => whnf)
    (apply StepO.still; (· intro wd hd; (conv => whnf); (repeat (intro _; (conv => whnf))); (first | exact PostO.still (Ext.refl _) rfl | ((repeat' (first | (refine Obl.mk ⟨by omega, by omega⟩ ?_; conv => whnf) | (refine Obl.mk ⟨by omega, by omega, ⟨by omega, by omega⟩⟩ ?_; conv => whnf) | ((with_reducible refine Tst.tt ?_); conv => whnf) | ((with_reducible refine Tst.ff ?_); conv => whnf) | ((with_reducible refine Tst.dec (fun _ => ?_) (fun _ => ?_)) <;> first | (exfalso; omega) | (conv => whnf)) | ((with_reducible refine Tst.not ?_)) | (refine Wit.conv ⟨by omega, by omega⟩ ?_; conv => whnf) | ((with_reducible refine IdxV.nat (by omega) ?_); conv => whnf) | ((with_reducible refine SameW.mk rfl ?_); conv => whnf) | ((with_reducible refine Tst.beqT ?_)) | ((with_reducible refine Tst.beqF ?_)) | (refine Tst.yes rfl ?_; conv => whnf) | (refine Tst.no rfl ?_; conv => whnf))); exact PostO.still (Ext.refl _) rfl))); (conv => whnf))
    (apply StepO.still; (· intro wd hd; (conv => whnf); (repeat' (first | (refine Obl.mk ⟨by omega, by omega⟩ ?_; conv => whnf) | (refine Obl.mk ⟨by omega, by omega, ⟨by omega, by omega⟩⟩ ?_; conv => whnf) | ((with_reducible refine Tst.tt ?_); conv => whnf) | ((with_reducible refine Tst.ff ?_); conv => whnf) | ((with_reducible refine Tst.dec (fun _ => ?_) (fun _ => ?_)) <;> first | (exfalso; omega) | (conv => whnf)) | ((with_reducible refine Tst.not ?_)) | (refine Wit.conv ⟨by omega, by omega⟩ ?_; conv => whnf) | ((with_reducible refine IdxV.nat (by omega) ?_); conv => whnf) | ((with_reducible refine SameW.mk rfl ?_); conv => whnf) | ((with_reducible refine Tst.beqT ?_)) | ((with_reducible refine Tst.beqF ?_)) | (refine Tst.yes rfl ?_; conv => whnf) | (refine Tst.no rfl ?_; conv => whnf))); refine LoadV.mem (Mem.call (Mem.drew hm) hd) (i := 1) rfl rfl ?_; (conv => whnf); exact PostO.still (Ext.refl _) rfl); (conv => whnf))
    apply StepO.of (some 5) (fun v w' => w'.ownsRow w6.drew.heap.size 9 1 v n1.v.length (n1.v.map Value.string)) (Loc.row _ _ _ _ _ _)
    · intro wd hd
      (conv => whnf)
      intro v hv hg
      obtain ⟨B0, c0, rfl⟩ : ∃ B c, v = .slice B 0 c := by
        rcases hv.2 with ⟨rfl, _⟩ | ⟨g, cap, cur, rfl, _⟩
        · exact ⟨_, _, rfl⟩
        · exact ⟨_, _, rfl⟩
      (conv => whnf)
      refine AppV.own (size := 1) rfl rfl rfl rfl rfl (by decide) hv (Nat.le_of_lt_succ (Nat.lt_succ_of_le hd.size)) (by rw [List.length_map]; exact (Nat.mul_one _).symm) (fun h => (hv6.ext ((Ext.refl w6).drew.trans hd)).cells h) (fun u hu => by
        obtain ⟨x, _, rfl⟩ := List.mem_map.1 hu
        rfl) (show (0 + n1.v.length) * 16 ≤ 140737488355328 by omega) (by omega) ?_
      intro v' w' ho hg2 hor
      rw [force_eq]
      exact PostO.grown ho hg2 hor (fun k hk => by show some k ∈ [Value.ownBlock (.slice B0 0 c0)]; rw [← hk]; exact List.mem_singleton.2 rfl) (by simpa using ho)
    (conv => whnf)
    apply StepO.of none (fun v w' => ∃ g, v = .slice (some ⟨g, 0, none⟩) 1 1 ∧ ∃ cs, w'.heap[g]? = some (.cells cs 9 (0, 0)) ∧ cs.toList = [.string holder]) Loc.one
    · intro wd hd
      (conv => whnf)
      exact ⟨fun b w' hb hw => PostO.new hb hw ⟨b, rfl, #[.string holder], by rw [hb, hw]; exact heap_alloc_new _ _, rfl⟩⟩
    (conv => whnf)
    apply StepO.of (some 9) (fun v w' => w'.ownsRow w6.drew.heap.size 9 1 v (n1.v.length + 1) (n1.v.map Value.string ++ [.string holder])) (Loc.row _ _ _ _ _ _)
    · intro wd hd
      (conv => whnf)
      intro _ _ _
      (conv => whnf)
      rintro v4 ⟨g4, rfl, cs4, h4, h4'⟩ hg4
      (conv => whnf)
      intro v hv hg
      obtain ⟨B0, c0, rfl⟩ := ownsSl hv
      (conv => whnf)
      refine AppV.own (size := 1) (news := [.string holder]) (by rfl) (by rfl) (by rfl) (by rfl) (by rfl) (by decide) hv (Nat.le_of_lt_succ (Nat.lt_succ_of_le hd.size)) rfl (fun _ => ⟨g4, 0, rfl, fun k u hu => ?_⟩) (fun u hu => by
        rw [List.mem_singleton.1 hu]; rfl) (by show (n1.v.length + 1) * 16 ≤ 140737488355328; omega) (by omega) ?_
      · rw [cell_heap h4, Nat.zero_add, ← Array.getElem?_toList, h4']; exact hu
      intro v' w' ho hg2 hor
      rw [force_eq]
      exact PostO.grown ho hg2 hor (fun k hk => by show some k ∈ Value.ownBlock (.slice B0 n1.v.length c0) :: _; rw [← hk]; exact List.mem_cons_self ..) ho
    (conv => whnf)
    (apply StepO.still; (· intro wd hd; (conv => whnf); (repeat (intro _; (conv => whnf))); (first | exact PostO.still (Ext.refl _) rfl | ((repeat' (first | (refine Obl.mk ⟨by omega, by omega⟩ ?_; conv => whnf) | (refine Obl.mk ⟨by omega, by omega, ⟨by omega, by omega⟩⟩ ?_; conv => whnf) | ((with_reducible refine Tst.tt ?_); conv => whnf) | ((with_reducible refine Tst.ff ?_); conv => whnf) | ((with_reducible refine Tst.dec (fun _ => ?_) (fun _ => ?_)) <;> first | (exfalso; omega) | (conv => whnf)) | ((with_reducible refine Tst.not ?_)) | (refine Wit.conv ⟨by omega, by omega⟩ ?_; conv => whnf) | ((with_reducible refine IdxV.nat (by omega) ?_); conv => whnf) | ((with_reducible refine SameW.mk rfl ?_); conv => whnf) | ((with_reducible refine Tst.beqT ?_)) | ((with_reducible refine Tst.beqF ?_)) | (refine Tst.yes rfl ?_; conv => whnf) | (refine Tst.no rfl ?_; conv => whnf))); exact PostO.still (Ext.refl _) rfl))); (conv => whnf))
    (apply StepO.still; (· intro wd hd; (conv => whnf); (repeat' (first | (refine Obl.mk ⟨by omega, by omega⟩ ?_; conv => whnf) | (refine Obl.mk ⟨by omega, by omega, ⟨by omega, by omega⟩⟩ ?_; conv => whnf) | ((with_reducible refine Tst.tt ?_); conv => whnf) | ((with_reducible refine Tst.ff ?_); conv => whnf) | ((with_reducible refine Tst.dec (fun _ => ?_) (fun _ => ?_)) <;> first | (exfalso; omega) | (conv => whnf)) | ((with_reducible refine Tst.not ?_)) | (refine Wit.conv ⟨by omega, by omega⟩ ?_; conv => whnf) | ((with_reducible refine IdxV.nat (by omega) ?_); conv => whnf) | ((with_reducible refine SameW.mk rfl ?_); conv => whnf) | ((with_reducible refine Tst.beqT ?_)) | ((with_reducible refine Tst.beqF ?_)) | (refine Tst.yes rfl ?_; conv => whnf) | (refine Tst.no rfl ?_; conv => whnf))); refine LoadV.mem (Mem.call (Mem.drew hm) hd) (i := 1) rfl rfl ?_; (conv => whnf); exact PostO.still (Ext.refl _) rfl); (conv => whnf))
    (apply StepO.still; (· intro wd hd; (conv => whnf); (repeat (intro _; (conv => whnf))); (first | exact PostO.still (Ext.refl _) rfl | ((repeat' (first | (refine Obl.mk ⟨by omega, by omega⟩ ?_; conv => whnf) | (refine Obl.mk ⟨by omega, by omega, ⟨by omega, by omega⟩⟩ ?_; conv => whnf) | ((with_reducible refine Tst.tt ?_); conv => whnf) | ((with_reducible refine Tst.ff ?_); conv => whnf) | ((with_reducible refine Tst.dec (fun _ => ?_) (fun _ => ?_)) <;> first | (exfalso; omega) | (conv => whnf)) | ((with_reducible refine Tst.not ?_)) | (refine Wit.conv ⟨by omega, by omega⟩ ?_; conv => whnf) | ((with_reducible refine IdxV.nat (by omega) ?_); conv => whnf) | ((with_reducible refine SameW.mk rfl ?_); conv => whnf) | ((with_reducible refine Tst.beqT ?_)) | ((with_reducible refine Tst.beqF ?_)) | (refine Tst.yes rfl ?_; conv => whnf) | (refine Tst.no rfl ?_; conv => whnf))); exact PostO.still (Ext.refl _) rfl))); (conv => whnf))
    apply StepO.of none (fun v w' => ∃ g c cur, v = .slice (some ⟨g, 0, none⟩) n1.v.length c ∧ n1.v.length + 1 ≤ c ∧ w'.heap[g]? = some (.cells cur 9 (0, 0)) ∧ cur.toList.take (n1.v.length + 1) = n1.v.map Value.string ++ [.string holder]) Loc.cut
    · intro wd hd
      (conv => whnf)
      intro v hv hg
      obtain ⟨g, cap, cur, rfl, hge, hh, hcap, hcur⟩ := ownsCut hv
      (conv => whnf)
      refine SliceV.head (m := n1.v.length) (by omega) rfl ?_
      refine ⟨Chg.ext (Ext.refl _), ⟨g, cap, cur, rfl, hcap, hh, hcur⟩, fun _ g' h' => ?_⟩
      cases h'
      exact ⟨heap_lt hh, .inl (by show some g ∈ [Value.ownBlock (.slice (some ⟨g, 0, none⟩) (n1.v.length + 1) cap)]; exact List.mem_singleton.2 rfl)⟩
    (conv => whnf)
    (apply StepO.still; (· intro wd hd; (conv => whnf); (repeat (intro _; (conv => whnf))); (first | exact PostO.still (Ext.refl _) rfl | ((repeat' (first | (refine Obl.mk ⟨by omega, by omega⟩ ?_; conv => whnf) | (refine Obl.mk ⟨by omega, by omega, ⟨by omega, by omega⟩⟩ ?_; conv => whnf) | ((with_reducible refine Tst.tt ?_); conv => whnf) | ((with_reducible refine Tst.ff ?_); conv => whnf) | ((with_reducible refine Tst.dec (fun _ => ?_) (fun _ => ?_)) <;> first | (exfalso; omega) | (conv => whnf)) | ((with_reducible refine Tst.not ?_)) | (refine Wit.conv ⟨by omega, by omega⟩ ?_; conv => whnf) | ((with_reducible refine IdxV.nat (by omega) ?_); conv => whnf) | ((with_reducible refine SameW.mk rfl ?_); conv => whnf) | ((with_reducible refine Tst.beqT ?_)) | ((with_reducible refine Tst.beqF ?_)) | (refine Tst.yes rfl ?_; conv => whnf) | (refine Tst.no rfl ?_; conv => whnf))); exact PostO.still (Ext.refl _) rfl))); (conv => whnf))
    intro w7 hd
    (conv => whnf)
    rintro v ⟨gv, cv, curv, rfl, hcv, hhv, htv⟩ hgv
    (conv => whnf)
    (repeat (intro _; (conv => whnf)))
    replace hm := Mem.addO hm hd hhv (hgv gv rfl).1
    refine StoreV.mem hm (i := 2) rfl (show 5 < 6 by decide) rfl ?_
    intro w8 hm
    (conv => whnf)
    obtain ⟨n2, hn2⟩ : ∃ n2 : PN, n2 = { n1 with vA := some ⟨gv, 0, none⟩, vc := cv } := ⟨_, rfl⟩
    replace hm : Mem w w8 ((gv, .cells curv 9 (0, 0)) :: (gf, .cells curf 9 (0, 0)) :: (nb, .cells (encN n2).toArray 81 (0, 0)) :: (ob, arr) :: R) := by rw [hn2]; exact hm
    have hn2v : n2.v = n1.v := by rw [hn2]
    have hn2A : n2.vA = some ⟨gv, 0, none⟩ := by rw [hn2]
    have hn2c : n2.vc = cv := by rw [hn2]
    have hs2 : SameN n n2 := by rw [hn2]; exact ⟨hs1.op, hs1.iri, hs1.a, hs1.b, hs1.f, hs1.v⟩
    have h2f : n2.f = n.f := by rw [hn2]; exact hn1f
    have h2A : n2.fA = some ⟨gf, 0, none⟩ := by rw [hn2]; exact hn1A
    have h2c : n2.fc = cf := by rw [hn2]; exact hn1c
    clear hn1 hn2
    rw [harr] at hm
    refine LoadA.mem hm (i := 2) rfl rfl ?_
    (conv => whnf)
    refine ElemV.own qs.length rfl (by omega) ?_
    (conv => whnf)
    refine StoreA.mem hm (i := 3) rfl (lent_room hil) (fun v hv => by
      simp at hv
      rcases hv with rfl | rfl | rfl | rfl | rfl | rfl <;> rfl) ?_
    intro w9 hm
    replace hm := ((hm.sub (L' := [(gv, Obj.cells curv 9 (0, 0)), (gf, Obj.cells curf 9 (0, 0))] ++ (ob, Obj.cells ((qs ++ [n2]).flatMap encN ++ zerosL zeroN (p.length + 1 - (qs ++ [n2]).length)).toArray 81 (0, 0)) :: R) (by
      rw [lent_row hil]
      exact (((List.Sublist.refl _).cons _).cons_cons _).cons_cons _)).perm List.perm_middle.symm)
    (conv => whnf)
    (repeat' (first
      | (refine Obl.mk ⟨by omega, by omega⟩ ?_; conv => whnf)
      | (refine Obl.mk ⟨by omega, by omega, ⟨by omega, by omega⟩⟩ ?_; conv => whnf)
      | ((with_reducible refine Tst.tt ?_); conv => whnf)
      | ((with_reducible refine Tst.ff ?_); conv => whnf)
      | ((with_reducible refine Tst.dec (fun _ => ?_) (fun _ => ?_)) <;> first | (exfalso; omega) | (conv => whnf))
      | ((with_reducible refine Tst.not ?_))
      | (refine Wit.conv ⟨by omega, by omega⟩ ?_; conv => whnf)
      | ((with_reducible refine IdxV.nat (by omega) ?_); conv => whnf)
      | ((with_reducible refine SameW.mk rfl ?_); conv => whnf)
      | (refine LoadV.mem (i := 0) (by assumption) rfl rfl ?_; conv => whnf)
      | (refine LoadV.mem (i := 1) (by assumption) rfl rfl ?_; conv => whnf)
      | (refine LoadV.mem (i := 2) (by assumption) rfl rfl ?_; conv => whnf)
      | ((with_reducible refine Tst.beqT ?_))
      | ((with_reducible refine Tst.beqF ?_))
      | (refine Tst.yes rfl ?_; conv => whnf)
      | (refine Tst.no rfl ?_; conv => whnf)))
    refine ⟨(qs ++ [n2], (gv, Obj.cells curv 9 (0, 0)) :: (gf, Obj.cells curf 9 (0, 0)) :: R), ⟨rfl, rfl, congrArg (Value.int .i64) (by simp : ((qs.length : Int) + 1) = ((qs ++ [n2]).length : Nat)), trivial⟩, ⟨by simp; omega, ?_, hm⟩, by simp; omega⟩
    intro k hk hk'
    simp only [List.length_append, List.length_cons, List.length_nil] at hk'
    by_cases hkq : k < qs.length
    · simp only [List.getElem_append_left hkq]
      exact (h2 k hk hkq).mono fun x hx => List.mem_cons_of_mem _ (List.mem_cons_of_mem _ hx)
    · obtain rfl : k = qs.length := by omega
      simp only [List.getElem_append_right (Nat.le_refl _), Nat.sub_self, List.getElem_cons_zero]
      rw [← hn]
      exact ⟨hs2, ⟨gf, curf, h2A, by rw [h2f, h2c]; exact hcf, List.mem_cons_of_mem _ (List.mem_cons_self ..), by rw [h2f]; exact htf⟩, ⟨gv, curv, hn2A, by rw [hn2v, hn2c]; exact hcv, List.mem_cons_self .., by rw [hn2v]; exact htv⟩⟩
  · obtain hql : qs.length = p.length := by omega
    refine ElemV.own p.length rfl (by omega) ?_
    (conv => whnf)
    refine StoreA.mem hm (i := 0) rfl (lent_room2 hql) (fun v hv => by
      simp at hv
      rcases hv with rfl | rfl | rfl | rfl | rfl | rfl <;> rfl) ?_
    intro w3 hm
    (conv => whnf)
    refine SliceV.head (m := p.length) (by omega) rfl ?_
    (conv => whnf)
    exact ⟨ob, qs, R, rfl, hql, h2, by rw [lent_row2 hql]; exact hm⟩
end Go.Proofs.YtajgbepghniciaaGreatDoor
