/- strings.Builder: written by steps of the engine. -/
import Derived.Test.YtajgbepghniciaaGreatDoorEsc
import Derived.Test.YtajgbepghniciaaGreatDoorShelf
import Derived.Lib.Builder
namespace Go.Proofs.YtajgbepghniciaaGreatDoor
open Go.RowKit V
set_option maxRecDepth 100000
namespace V
theorem Rw.setCell {w0 w w' : World} {v : Value} {e : TypeId} {size n : Nat} {xs : List Value} {L : List (Nat × Obj)} (h : Rw w0 w v e size n xs L) {i b off : Nat} {x : Value} {cs : Array Value} {t : TypeId} {fr : Nat × Nat}
    (hi : L[i]? = some (b, .cells cs t fr)) (hw : w' = w.setCell ⟨b, off, none⟩ x) : Rw w0 w' v e size n xs (L.set i (b, .cells (cs.setIfInBounds off x) t fr)) := by
  have hm := h.mem.setCell hi hw
  have hb : v.ownBlock ≠ some b := h.apart _ (List.mem_of_getElem? hi)
  refine ⟨hm, ?_, fun y hy => ?_⟩
  · subst hw
    refine h.own.kept (row := some b) ⟨rfl, rfl, rfl, by simp [World.setCell], fun k _ hk => Below.heap_setCell _ _ _ _ (fun e => hk (by simp [e]))⟩ ?_
    exact Or.inr hb
  · rcases List.mem_or_eq_of_mem_set hy with hy | rfl
    · exact h.apart y hy
    · exact hb
theorem strCells_bytes (s : ByteArray) : Lib.strCells s = byteCells s.data.toList := rfl
/-- no block of a type -/
def NoneOf (e : TypeId) (L : List (Nat × Obj)) : Prop := ∀ x ∈ L, ∀ c fz, x.2 ≠ .cells c e fz
theorem AppV.rwS {P : Program} {w0 w : World} {v : Value} {e : TypeId} {n : Nat} {xs : List Value} {L : List (Nat × Obj)} {t u ty : TypeId} {i : TypeInfo} {s : ByteArray} {K : Value → World → Prop}
    (ht : P.underlying t = some (.slice e)) (hu : P.underlying u = some .string) (hi : P.info? e = some i) (hz : i.zero = some (.int .u8 0)) (hsize : i.size = 1) (hby : i.bytes = 1)
    (h : Rw w0 w v e 1 n xs L) (hL : NoneOf e L) (hb : n + s.size ≤ 140737488355328)
    (hk : ∀ v' w', Rw w0 w' v' e 1 (n + s.size) (xs ++ byteCells s.data.toList) L → K v' w') : AppV P #[t, u] ty v (.string s) w K := by
  obtain ⟨v', w', hrun, h2, h3, _⟩ := Lib.run_append_own_string (P := P) w w0.heap.size t u ty e i ht hu hi hz hsize hby v n xs h.own s (by simp only [maxLen]; omega) hb h.mem.ext.size
  have hm := h.grown h3 (fun k hk => ⟨(h.own.lt k hk).1, fun x hx e => h.apart x hx (by rw [hk, e])⟩)
  refine ⟨v', w', hrun, hk _ _ ⟨hm, h2, fun x hx he => ?_⟩⟩
  have hx' := hm.get hx
  rcases h2.2 with ⟨rfl, _⟩ | ⟨g, cap, cur, rfl, _, hg, _⟩
  · cases he
  · cases he
    rw [hx'] at hg
    exact hL x hx _ _ (Option.some.inj hg)

theorem Fall.conv {P : Program} {ρ : Nat → Value} {o : Oper} {src dst : TypeId} {x : Operand} {u : Value} {w : World} {K : Value → World → Prop} (ho : o.op = .convert src dst x)
    (hr : (convert src dst (ev ρ x)).run P w = .ok u w) (hk : K u w) : Fall P (execOp (ev ρ) o) w K := by
  refine ⟨.inl ⟨u, w, ?_, hk⟩⟩
  simp [execOp, ho, hr]
theorem RunV.neqSame {P : Program} {t te : TypeId} {xo yo : Operand} {j : TypeInfo} {w : World} {K : Value → World → Prop} (a : Addr) (hp : P.underlying t = some (.pointer te)) (hte : P.info? te = some j) (hk : K (.bool false) w) :
    RunV P (do eqGuard .neq t xo yo (.pointer (some a)) (.pointer (some a)); binOp .neq t (.pointer (some a)) (.pointer (some a))) w K := by
  refine ⟨.bool false, w, ?_, hk⟩
  simp [eqGuard, Lib.run_neq_ptr_same w a hp hte]
/-- A strings.Builder in a block of its own that holds some bytes. -/
def BldB (b : Nat) (p v : Value) : Nat × Obj := (b, .cells #[p, v] 303 (0, 0))
structure Bld (w0 w : World) (b : Nat) (l : List UInt8) (L : List (Nat × Obj)) : Prop where
  h : ∃ p v, (p = .pointer none ∨ p = .pointer (some ⟨b, 0, none⟩)) ∧ Rw w0 w v 5 1 l.length (byteCells l) (BldB b p v :: L)
end V

theorem copyCheck_any (b : Nat) (p v : Value) (w0 w : World) (L : List (Nat × Obj)) (hp : p = .pointer none ∨ p = .pointer (some ⟨b, 0, none⟩)) (h : Mem w0 w (BldB b p v :: L)) :
    Gv Tryz.prog 245 [.pointer (some ⟨b, 0, none⟩)] w fun r w' => r = .tuple #[] ∧ ((p = .pointer (some ⟨b, 0, none⟩) ∧ w' = w) ∨ w' = w.setCell ⟨b, 0, none⟩ (.pointer (some ⟨b, 0, none⟩))) := by
  have hc : w.cell? ⟨b, 0, none⟩ = some p := by rw [cell_heap (h.get (List.mem_cons_self ..))]; rfl
  have hsh : w.shape? b = some (303, 2) := by simp [World.shape?, h.get (List.mem_cons_self ..)]
  rcases hp with rfl | rfl
  · refine gv (by kernel_rfl) Tryz.func245 rfl Tryz.ntmps245 rfl ?_; conv => whnf
    refine LoadV.of hc ?_
    (conv => whnf)
    (repeat' (first
      | (refine Obl.mk ⟨by omega, by omega⟩ ?_; conv => whnf)
      | (refine Obl.mk ⟨by omega, by omega, ⟨by omega, by omega⟩⟩ ?_; conv => whnf)
      | ((with_reducible refine Tst.tt ?_); conv => whnf)
      | ((with_reducible refine Tst.ff ?_); conv => whnf)
      | ((with_reducible refine Tst.dec (fun _ => ?_) (fun _ => ?_)) <;> first | (exfalso; omega) | (conv => whnf))
      | ((with_reducible refine Tst.not ?_))
      | (refine Wit.conv ⟨by omega, by omega⟩ ?_; conv => whnf)
      | ((with_reducible refine IdxV.nat (by omega) ?_); conv => whnf)
      | ((with_reducible refine SameW.mk rfl ?_); conv => whnf)
      | (refine LoadV.mem (i := 0) (by assumption) rfl rfl ?_; conv => whnf)
      | (refine LoadV.mem (i := 1) (by assumption) rfl rfl ?_; conv => whnf)
      | (refine LoadV.mem (i := 2) (by assumption) rfl rfl ?_; conv => whnf)
      | ((with_reducible refine Tst.beqT ?_))
      | ((with_reducible refine Tst.beqF ?_))
      | (refine Tst.yes rfl ?_; conv => whnf)
      | (refine Tst.no rfl ?_; conv => whnf)))
    refine Fall.conv rfl (Lib.run_to_unsafe (t := 303) (e := 303) (cells := 2) _ _ Tryz.underlying301 Tryz.underlying332 (j := _) (Option.some_get (by kernel_rfl)).symm (by decide +kernel) hsh (Nat.zero_lt_succ 1)) ?_
    (conv => whnf)
    refine ⟨.inr ⟨.pointer (some ⟨b, 0, none⟩), w, by rw [run_callFunc_extern Tryz.func296 (by kernel_rfl) (by kernel_rfl) (by kernel_rfl) (e := Extern.AbiNoEscape.same) (by kernel_rfl)]; rfl, ?_⟩⟩
    (conv => whnf)
    refine Fall.conv rfl (Lib.run_from_unsafe (u := 303) (e := 303) (cells := 2) _ _ Tryz.underlying332 Tryz.underlying301 (j := _) (Option.some_get (by kernel_rfl)).symm hsh (by kernel_rfl)) ?_
    (conv => whnf)
    refine StoreV.own (h.get (List.mem_cons_self ..)) (Nat.zero_lt_succ 1) rfl fun w' hw => ?_
    (conv => whnf)
    exact ⟨rfl, .inr hw⟩
  · refine gv (by kernel_rfl) Tryz.func245 rfl Tryz.ntmps245 rfl ?_; conv => whnf
    refine LoadV.of hc ?_
    (conv => whnf)
    (repeat' (first
      | (refine Obl.mk ⟨by omega, by omega⟩ ?_; conv => whnf)
      | (refine Obl.mk ⟨by omega, by omega, ⟨by omega, by omega⟩⟩ ?_; conv => whnf)
      | ((with_reducible refine Tst.tt ?_); conv => whnf)
      | ((with_reducible refine Tst.ff ?_); conv => whnf)
      | ((with_reducible refine Tst.dec (fun _ => ?_) (fun _ => ?_)) <;> first | (exfalso; omega) | (conv => whnf))
      | ((with_reducible refine Tst.not ?_))
      | (refine Wit.conv ⟨by omega, by omega⟩ ?_; conv => whnf)
      | ((with_reducible refine IdxV.nat (by omega) ?_); conv => whnf)
      | ((with_reducible refine SameW.mk rfl ?_); conv => whnf)
      | (refine LoadV.mem (i := 0) (by assumption) rfl rfl ?_; conv => whnf)
      | (refine LoadV.mem (i := 1) (by assumption) rfl rfl ?_; conv => whnf)
      | (refine LoadV.mem (i := 2) (by assumption) rfl rfl ?_; conv => whnf)
      | ((with_reducible refine Tst.beqT ?_))
      | ((with_reducible refine Tst.beqF ?_))
      | (refine Tst.yes rfl ?_; conv => whnf)
      | (refine Tst.no rfl ?_; conv => whnf)))
    refine RunV.neqSame _ Tryz.underlying301 (j := _) rfl ?_
    (conv => whnf)
    (repeat' (first
      | (refine Obl.mk ⟨by omega, by omega⟩ ?_; conv => whnf)
      | (refine Obl.mk ⟨by omega, by omega, ⟨by omega, by omega⟩⟩ ?_; conv => whnf)
      | ((with_reducible refine Tst.tt ?_); conv => whnf)
      | ((with_reducible refine Tst.ff ?_); conv => whnf)
      | ((with_reducible refine Tst.dec (fun _ => ?_) (fun _ => ?_)) <;> first | (exfalso; omega) | (conv => whnf))
      | ((with_reducible refine Tst.not ?_))
      | (refine Wit.conv ⟨by omega, by omega⟩ ?_; conv => whnf)
      | ((with_reducible refine IdxV.nat (by omega) ?_); conv => whnf)
      | ((with_reducible refine SameW.mk rfl ?_); conv => whnf)
      | (refine LoadV.mem (i := 0) (by assumption) rfl rfl ?_; conv => whnf)
      | (refine LoadV.mem (i := 1) (by assumption) rfl rfl ?_; conv => whnf)
      | (refine LoadV.mem (i := 2) (by assumption) rfl rfl ?_; conv => whnf)
      | ((with_reducible refine Tst.beqT ?_))
      | ((with_reducible refine Tst.beqF ?_))
      | (refine Tst.yes rfl ?_; conv => whnf)
      | (refine Tst.no rfl ?_; conv => whnf)))
    exact ⟨rfl, .inl ⟨rfl, rfl⟩⟩

theorem byteCells_append' (a b : List UInt8) : byteCells (a ++ b) = byteCells a ++ byteCells b := by simp [byteCells]
theorem byteCells_length' (a : List UInt8) : (byteCells a).length = a.length := by simp [byteCells]
theorem gv_of' {P : Program} {f : FuncId} {vs : List Value} {w : World} {R : Value → World → Prop} (he : enters P f = true) (h : Calls P f vs.toArray w fun e w' => ∃ v, e = .returned v ∧ R v w') : Gv P f vs w R := ⟨he, h⟩
theorem noneOf_bld {b : Nat} {p v : Value} {L : List (Nat × Obj)} (hL : NoneOf 5 L) : NoneOf 5 (BldB b p v :: L) := by
  intro x hx c fz
  rcases List.mem_cons.1 hx with rfl | hx
  · intro e; cases e
  · exact hL x hx c fz
theorem writeString_any (b : Nat) (l : List UInt8) (s : ByteArray) (w0 w : World) (L : List (Nat × Obj)) (h : Bld w0 w b l L) (hL : NoneOf 5 L) (hs : l.length + s.size ≤ 140737488355328) :
    Gv Tryz.prog 194 [.pointer (some ⟨b, 0, none⟩), .string s] w fun r w' => r = .tuple #[.int .i64 s.size, .nilIface] ∧ Bld w0 w' b (l ++ s.data.toList) L := by
  obtain ⟨p, v, hp, hR⟩ := h
  have hcc := copyCheck_any b p v w0 w L hp hR.mem
  obtain ⟨A, c, rfl⟩ := hR.slice
  refine gv (by kernel_rfl) Tryz.func194 rfl Tryz.ntmps194 rfl ?_; conv => whnf
  (repeat' (first
      | (refine Obl.mk ⟨by omega, by omega⟩ ?_; conv => whnf)
      | (refine Obl.mk ⟨by omega, by omega, ⟨by omega, by omega⟩⟩ ?_; conv => whnf)
      | ((with_reducible refine Tst.tt ?_); conv => whnf)
      | ((with_reducible refine Tst.ff ?_); conv => whnf)
      | ((with_reducible refine Tst.dec (fun _ => ?_) (fun _ => ?_)) <;> first | (exfalso; omega) | (conv => whnf))
      | ((with_reducible refine Tst.not ?_))
      | (refine Wit.conv ⟨by omega, by omega⟩ ?_; conv => whnf)
      | ((with_reducible refine IdxV.nat (by omega) ?_); conv => whnf)
      | ((with_reducible refine SameW.mk rfl ?_); conv => whnf)
      | (refine LoadV.mem (i := 0) (by assumption) rfl rfl ?_; conv => whnf)
      | (refine LoadV.mem (i := 1) (by assumption) rfl rfl ?_; conv => whnf)
      | (refine LoadV.mem (i := 2) (by assumption) rfl rfl ?_; conv => whnf)
      | ((with_reducible refine Tst.beqT ?_))
      | ((with_reducible refine Tst.beqF ?_))
      | (refine Tst.yes rfl ?_; conv => whnf)
      | (refine Tst.no rfl ?_; conv => whnf)))
  refine CallV.of (hcc) ?_
  rintro r w1 ⟨rfl, hw⟩
  have hR1 : Rw w0 w1 (.slice A l.length c) 5 1 l.length (byteCells l) (BldB b (.pointer (some ⟨b, 0, none⟩)) (.slice A l.length c) :: L) := by
    rcases hw with ⟨rfl, rfl⟩ | hw
    · exact hR
    · exact hR.setCell (i := 0) rfl hw
  (conv => whnf)
  refine LoadV.own (hR1.mem.get (List.mem_cons_self ..)) rfl ?_
  (conv => whnf)
  refine AppV.rwS (i := _) Tryz.underlying45 Tryz.underlying9 (Option.some_get (by kernel_rfl)).symm (by kernel_rfl) (by kernel_rfl) (by kernel_rfl) hR1 (noneOf_bld hL) hs fun v' w2 hR2 => ?_
  obtain ⟨A', c', rfl⟩ := hR2.slice
  (conv => whnf)
  refine StoreV.own (hR2.mem.get (List.mem_cons_self ..)) (Nat.lt_succ_self 1) rfl fun w3 hw => ?_
  have hR3 := hR2.setCell (i := 0) rfl hw
  (conv => whnf)
  refine ⟨rfl, ⟨⟨.pointer (some ⟨b, 0, none⟩), .slice A' (l.length + s.size) c', .inr rfl, ?_⟩⟩⟩
  have e : (l ++ s.data.toList).length = l.length + s.size := by simp
  rw [e, byteCells_append']
  exact hR3
theorem builderString_any (b : Nat) (l : List UInt8) (w0 w : World) (L : List (Nat × Obj)) (h : Bld w0 w b l L) :
    Gv Tryz.prog 195 [.pointer (some ⟨b, 0, none⟩)] w fun r w' => r = .string ⟨l.toArray⟩ ∧ Ext w0 w' := by
  obtain ⟨p, v, hp, hR⟩ := h
  have hb := hR.mem.own _ (List.mem_cons_self ..)
  have key : Lib.BuilderAt 303 5 w0.heap.size b p (Lib.byteCells l) w := by
    refine ⟨hb.1, v, hb.2, ?_, hR.apart _ (List.mem_cons_self ..)⟩
    have := hR.own
    rw [← byteCells_length' l] at this
    exact this
  refine gv_of' (by kernel_rfl) ((Tryz.Builder_String_any w0.heap.size b l w ?_ hR.mem.ext.size).mono ?_)
  · rcases hp with rfl | rfl
    · exact .inl key
    · exact .inr key
  · rintro e w' ⟨rfl, hB⟩
    exact ⟨_, rfl, rfl, Below.trans hR.mem.ext hB⟩
end Go.Proofs.YtajgbepghniciaaGreatDoor
