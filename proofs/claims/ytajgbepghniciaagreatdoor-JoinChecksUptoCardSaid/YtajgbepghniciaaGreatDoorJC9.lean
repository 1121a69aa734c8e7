/- Lemmas and contracts of functions on the way to the law's card (part 9 of 17). -/
import Derived.Test.YtajgbepghniciaaGreatDoorJC8
namespace Go.Proofs.YtajgbepghniciaaGreatDoor
open Go.RowKit V
set_option maxRecDepth 100000

def glue (cur : List UInt8) : List (List UInt8) → List (List UInt8)
  | [] => []
  | p :: ps => (cur ++ p) :: ps
theorem partsL_ne : ∀ l : List UInt8, ∃ p ps, partsL l = p :: ps
  | [] => ⟨_, _, rfl⟩
  | c :: t => by
    unfold partsL
    split
    · exact ⟨_, _, rfl⟩
    · split <;> exact ⟨_, _, rfl⟩
theorem glue_dash (cur t : List UInt8) : glue cur (partsL (45 :: t)) = [cur] ++ glue [] (partsL t) := by
  obtain ⟨p, ps, h⟩ := partsL_ne t
  rw [partsL, if_pos rfl, h]
  simp [glue]
theorem glue_step (cur t : List UInt8) {c : UInt8} (hc : c ≠ 45) : glue cur (partsL (c :: t)) = glue (cur ++ [c]) (partsL t) := by
  obtain ⟨p, ps, h⟩ := partsL_ne t
  rw [partsL, if_neg hc, h]
  simp [glue]
theorem ext_data (s : ByteArray) (a b : Nat) : (s.extract a b).data.toList = (s.data.toList.drop a).take (b - a) := by
  rw [ByteArray.data_extract, Array.toList_extract, List.extract_eq_take_drop]
theorem data_inj : ∀ {l m : List ByteArray}, l.map (·.data.toList) = m.map (·.data.toList) → l = m
  | [], [], _ => rfl
  | [], _ :: _, h => by simp at h
  | _ :: _, [], h => by simp at h
  | a :: l, b :: m, h => by
    simp only [List.map_cons, List.cons.injEq] at h
    obtain ⟨h1, h2⟩ := h
    obtain ⟨⟨a⟩⟩ := a
    obtain ⟨⟨b⟩⟩ := b
    simp only at h1
    rw [h1, data_inj h2]
theorem V.Rw.strs {w0 w : World} {A : Option Addr} {c : Nat} {e : TypeId} {zs : List ByteArray} {L : List (Nat × Obj)} (h : Rw w0 w (.slice A zs.length c) e 1 zs.length (zs.map Value.string) L) : SlAt V.encS 1 w A zs ∧ zs.length ≤ c := by
  constructor
  · refine ⟨fun hne => ?_⟩
    obtain ⟨g, rfl, _, _, _, hc⟩ := h.cells (List.length_pos_iff.2 hne)
    refine ⟨g, 0, rfl, fun j x hx k v hv => ?_⟩
    cases k with
    | succ k => simp [V.encS] at hv
    | zero =>
      simp only [V.encS, List.getElem?_cons_zero, Option.some.injEq] at hv
      subst hv
      have := hc j (.string x) (by rw [List.getElem?_map, hx]; rfl)
      simpa using this
  · rcases h.own.2 with ⟨e1, e2⟩ | ⟨g, cap, cur, e1, _, _, hnc, _⟩
    · omega
    · cases e1; exact hnc
theorem strSl : Tryz.prog.underlying 37 = some (.slice 9) := Tryz.underlying37
theorem refParts_any (s : ByteArray) (hs : s.size ≤ 1000000) (w : World) :
    Gv Tryz.prog 267 [.string s] w fun v w' => ∃ A c, v = .slice A (partsS s).length c ∧ Rw w w' (.slice A (partsS s).length c) 9 1 (partsS s).length ((partsS s).map Value.string) [] := by
  obtain ⟨L, hL⟩ : ∃ L, L = s.data.toList := ⟨_, rfl⟩
  have hLl : L.length = s.size := by rw [hL]; simp
  have fin : ∀ done : List ByteArray, partsL L = done.map (·.data.toList) → done = partsS s := fun done h => data_inj (by rw [← h, hL, partsS_data])
  refine gv (by kernel_rfl) Tryz.func267 rfl Tryz.ntmps267 rfl ?_; conv => whnf
  refine loopV (fun x : Nat × Nat × List ByteArray × Option Addr × Nat => [(0, .string s), (3, .slice x.2.2.2.1 x.2.2.1.length x.2.2.2.2), (4, .int .i64 x.2.1), (5, .int .i64 x.1)])
    (fun x w2 => x.1 ≤ s.size ∧ x.2.1 ≤ x.1 ∧ x.2.2.1.length ≤ x.1 ∧ Rw w w2 (.slice x.2.2.2.1 x.2.2.1.length x.2.2.2.2) 9 1 x.2.2.1.length (x.2.2.1.map Value.string) [] ∧
      partsL L = x.2.2.1.map (·.data.toList) ++ glue ((L.drop x.2.1).take (x.1 - x.2.1)) (partsL (L.drop x.1)))
    (fun x => s.size - x.1) (0, 0, [], none, 0) ⟨rfl, rfl, rfl, rfl, trivial⟩ ⟨by simp, by simp, by simp, Rw.nil (Mem.nil w), by
      obtain ⟨p, ps, h⟩ := partsL_ne L
      simp [glue, h]⟩ ?_
  rintro ⟨i, fr, done, B, d⟩ w2 ρ' ⟨h1, h2, h3, hR, h4⟩
  simp only at h1 h2 h3 hR h4
  dsimp only
  (conv => whnf)
  (repeat' (first
      | (refine Obl.mk ⟨by omega, by omega⟩ ?_; conv => whnf)
      | (refine Obl.mk ⟨by omega, by omega, ⟨by omega, by omega⟩⟩ ?_; conv => whnf)
      | ((with_reducible refine Tst.tt ?_); conv => whnf)
      | ((with_reducible refine Tst.ff ?_); conv => whnf)
      | ((with_reducible refine Tst.dec (fun _ => ?_) (fun _ => ?_)) <;> first | (exfalso; omega) | (conv => whnf))
      | ((with_reducible refine Tst.not ?_))
      | (refine Wit.conv ⟨by omega, by omega⟩ ?_; conv => whnf)
      | ((with_reducible refine IdxV.nat (by omega) ?_); conv => whnf)
      | ((with_reducible refine SameW.mk rfl ?_); conv => whnf)
      | (refine LoadV.mem (i := 0) (by assumption) rfl rfl ?_; conv => whnf)
      | (refine LoadV.mem (i := 1) (by assumption) rfl rfl ?_; conv => whnf)
      | (refine LoadV.mem (i := 2) (by assumption) rfl rfl ?_; conv => whnf)
      | ((with_reducible refine Tst.beqT ?_))
      | ((with_reducible refine Tst.beqF ?_))
      | (refine Tst.yes rfl ?_; conv => whnf)
      | (refine Tst.no rfl ?_; conv => whnf)))
  · have hi : i < s.size := by omega
    have hdrop : L.drop i = gb s i :: L.drop (i + 1) := by rw [hL]; exact drop_get s i hi
    rw [hdrop, show gb s i = 45 by rw [← UInt8.toNat_inj]; show _ = 45; omega, glue_dash] at h4
    refine ⟨fr, i, rfl, rfl, by omega, by omega, ?_⟩
    (conv => whnf)
    refine NewV.rw hR ?_
    intro nb w4 hR4
    (conv => whnf)
    refine AppV.one strSl strI strZ (by kernel_rfl) rfl (by decide +kernel) hR4 rfl (by omega) ?_
    intro B' d' w5 hR5
    (conv => whnf)
    (repeat' (first
      | (refine Obl.mk ⟨by omega, by omega⟩ ?_; conv => whnf)
      | (refine Obl.mk ⟨by omega, by omega, ⟨by omega, by omega⟩⟩ ?_; conv => whnf)
      | ((with_reducible refine Tst.tt ?_); conv => whnf)
      | ((with_reducible refine Tst.ff ?_); conv => whnf)
      | ((with_reducible refine Tst.dec (fun _ => ?_) (fun _ => ?_)) <;> first | (exfalso; omega) | (conv => whnf))
      | ((with_reducible refine Tst.not ?_))
      | (refine Wit.conv ⟨by omega, by omega⟩ ?_; conv => whnf)
      | ((with_reducible refine IdxV.nat (by omega) ?_); conv => whnf)
      | ((with_reducible refine SameW.mk rfl ?_); conv => whnf)
      | (refine LoadV.mem (i := 0) (by assumption) rfl rfl ?_; conv => whnf)
      | (refine LoadV.mem (i := 1) (by assumption) rfl rfl ?_; conv => whnf)
      | (refine LoadV.mem (i := 2) (by assumption) rfl rfl ?_; conv => whnf)
      | ((with_reducible refine Tst.beqT ?_))
      | ((with_reducible refine Tst.beqF ?_))
      | (refine Tst.yes rfl ?_; conv => whnf)
      | (refine Tst.no rfl ?_; conv => whnf)))
    refine ⟨(i + 1, i + 1, done ++ [s.extract fr i], B', d'), ⟨rfl, by simp only [List.length_append]; rfl, rfl, rfl, trivial⟩, ⟨by simp only; omega, by simp only; omega, by simp; omega, ?_, ?_⟩, by simp only; omega⟩
    · simp only [List.length_append, List.length_singleton, List.map_append, List.map_cons, List.map_nil]
      exact hR5
    · simp only [List.map_append, List.map_cons, List.map_nil, ext_data, Nat.sub_self, List.take_zero]
      rw [h4, ← hL, List.append_assoc]
  · have hi : i < s.size := by omega
    have hdrop : L.drop i = gb s i :: L.drop (i + 1) := by rw [hL]; exact drop_get s i hi
    have hc : gb s i ≠ 45 := fun e => by
      have : (gb s i).toNat = 45 := by rw [e]; rfl
      omega
    rw [hdrop, glue_step _ _ hc] at h4
    refine ⟨(i + 1, fr, done, B, d), ⟨rfl, rfl, rfl, rfl, trivial⟩, ⟨by simp only; omega, by simp only; omega, by simp only; omega, hR, ?_⟩, by simp only; omega⟩
    simp only
    rw [h4]
    congr 2
    have e : i + 1 - fr = (i - fr) + 1 := by omega
    rw [e, List.take_add_one]
    congr 1
    rw [List.getElem?_drop, show fr + (i - fr) = i by omega]
    have := congrArg List.head? hdrop
    rw [List.head?_drop] at this
    rw [this]; rfl
  · rw [List.drop_eq_nil_of_le (show L.length ≤ i by omega)] at h4
    refine ⟨fr, s.size, rfl, rfl, by omega, by omega, ?_⟩
    (conv => whnf)
    refine NewV.rw hR ?_
    intro nb w4 hR4
    (conv => whnf)
    refine AppV.one strSl strI strZ (by kernel_rfl) rfl (by decide +kernel) hR4 rfl (by omega) ?_
    intro B' d' w5 hR5
    (conv => whnf)
    have hd := fin (done ++ [s.extract fr s.size]) (by
      rw [h4]
      simp only [List.map_append, List.map_cons, List.map_nil, ext_data, ← hL, show i = s.size by omega]
      simp [glue, partsL])
    rw [← hd]
    have hR6 : Rw w w5 (.slice B' (done ++ [s.extract fr s.size]).length d') 9 1 (done ++ [s.extract fr s.size]).length ((done ++ [s.extract fr s.size]).map Value.string) [] := by
      simp only [List.length_append, List.length_singleton, List.map_append, List.map_cons, List.map_nil]
      exact hR5
    exact ⟨B', d', by rw [List.length_append]; rfl, hR6⟩
end Go.Proofs.YtajgbepghniciaaGreatDoor
namespace Go.Proofs.YtajgbepghniciaaGreatDoor
open Go.RowKit V
set_option maxRecDepth 100000

def jn : List ByteArray → List UInt8
  | [] => []
  | x :: xs => x.data.toList ++ xs.flatMap fun y => 45 :: y.data.toList
theorem jn_snoc (l : List ByteArray) (x : ByteArray) : jn (l ++ [x]) = if l = [] then x.data.toList else jn l ++ ([45] ++ x.data.toList) := by
  cases l with
  | nil => simp [jn]
  | cons y ys => simp [jn]
theorem dash_len : ∀ (l : List ByteArray), (∀ x ∈ l, x.size ≤ 1000000) → (l.flatMap fun y => (45 : UInt8) :: y.data.toList).length ≤ l.length * 1000001
  | [], _ => by simp
  | x :: l, h => by
    have := dash_len l fun y hy => h y (List.mem_cons_of_mem _ hy)
    have hx := h x (List.mem_cons_self ..)
    have e : x.data.toList.length = x.size := by simp
    rw [List.flatMap_cons, List.length_append, List.length_cons, List.length_cons, e]
    omega
theorem jn_len (l : List ByteArray) (h : ∀ x ∈ l, x.size ≤ 1000000) : (jn l).length ≤ l.length * 1000001 := by
  cases l with
  | nil => simp [jn]
  | cons x l =>
    have := dash_len l fun y hy => h y (List.mem_cons_of_mem _ hy)
    have hx := h x (List.mem_cons_self ..)
    have e : x.data.toList.length = x.size := by simp
    rw [jn, List.length_append, List.length_cons, e]
    omega
theorem joined_any (l : List ByteArray) (A : Option Addr) (c : Nat) (w : World) (hS : SlAt V.encS 1 w A l) (hx : ∀ x ∈ l, x.size ≤ 1000000) (hn : l.length ≤ 1000000) :
    Gv Tryz.prog 307 [.slice A l.length c] w fun v w' => v = .string ⟨(jn l).toArray⟩ ∧ Ext w w' := by
  refine gv (by kernel_rfl) Tryz.func307 rfl Tryz.ntmps307 rfl ?_; conv => whnf
  refine loopV (fun x : Nat × Option Addr × Nat => [(0, .slice A l.length c), (3, .slice x.2.1 (jn (l.take x.1)).length x.2.2), (4, .int .i64 x.1)])
    (fun x w2 => x.1 ≤ l.length ∧ Rw w w2 (.slice x.2.1 (jn (l.take x.1)).length x.2.2) 5 1 (jn (l.take x.1)).length (byteCells (jn (l.take x.1))) [])
    (fun x => l.length - x.1) (0, none, 0) ⟨rfl, rfl, rfl, trivial⟩ ⟨by simp, Rw.nil (Mem.nil w)⟩ ?_
  rintro ⟨k, B, d⟩ w2 ρ' ⟨h1, hR⟩
  simp only at h1 hR
  dsimp only
  have hlen := jn_len (l.take k) (fun x hxx => hx x (List.mem_of_mem_take hxx))
  rw [List.length_take] at hlen
  (conv => whnf)
  (repeat' (first
      | (refine Obl.mk ⟨by omega, by omega⟩ ?_; conv => whnf)
      | (refine Obl.mk ⟨by omega, by omega, ⟨by omega, by omega⟩⟩ ?_; conv => whnf)
      | ((with_reducible refine Tst.tt ?_); conv => whnf)
      | ((with_reducible refine Tst.ff ?_); conv => whnf)
      | ((with_reducible refine Tst.dec (fun _ => ?_) (fun _ => ?_)) <;> first | (exfalso; omega) | (conv => whnf))
      | ((with_reducible refine Tst.not ?_))
      | (refine Wit.conv ⟨by omega, by omega⟩ ?_; conv => whnf)
      | ((with_reducible refine IdxV.nat (by omega) ?_); conv => whnf)
      | ((with_reducible refine SameW.mk rfl ?_); conv => whnf)
      | (refine LoadV.mem (i := 0) (by assumption) rfl rfl ?_; conv => whnf)
      | (refine LoadV.mem (i := 1) (by assumption) rfl rfl ?_; conv => whnf)
      | (refine LoadV.mem (i := 2) (by assumption) rfl rfl ?_; conv => whnf)
      | ((with_reducible refine Tst.beqT ?_))
      | ((with_reducible refine Tst.beqF ?_))
      | (refine Tst.yes rfl ?_; conv => whnf)
      | (refine Tst.no rfl ?_; conv => whnf)))
  · have hk : k < l.length := by omega
    refine NewV.rw hR ?_
    intro nb w4 hR4
    (conv => whnf)
    refine AppV.one (i := _) (z := .int .u8 0) Tryz.underlying45 (Option.some_get (by kernel_rfl)).symm (by kernel_rfl) (by kernel_rfl) rfl (by decide +kernel) hR4 rfl (by omega) ?_
    intro B' d' w5 hR5
    (conv => whnf)
    refine ElemV.sl (hS.ext hR5.mem.ext) rfl k rfl hk ?_
    intro b off hc
    refine LoadV.cell0 hc ?_
    (conv => whnf)
    have hxk := hx _ (List.getElem_mem hk)
    refine AppV.rwS (i := _) Tryz.underlying45 Tryz.underlying9 (Option.some_get (by kernel_rfl)).symm (by kernel_rfl) (by kernel_rfl) (by kernel_rfl) hR5 (fun x hx c fz => by simp at hx) (by omega) fun v' w6 hR6 => ?_
    obtain ⟨A', c', rfl⟩ := hR6.slice
    (conv => whnf)
    (repeat' (first
      | (refine Obl.mk ⟨by omega, by omega⟩ ?_; conv => whnf)
      | (refine Obl.mk ⟨by omega, by omega, ⟨by omega, by omega⟩⟩ ?_; conv => whnf)
      | ((with_reducible refine Tst.tt ?_); conv => whnf)
      | ((with_reducible refine Tst.ff ?_); conv => whnf)
      | ((with_reducible refine Tst.dec (fun _ => ?_) (fun _ => ?_)) <;> first | (exfalso; omega) | (conv => whnf))
      | ((with_reducible refine Tst.not ?_))
      | (refine Wit.conv ⟨by omega, by omega⟩ ?_; conv => whnf)
      | ((with_reducible refine IdxV.nat (by omega) ?_); conv => whnf)
      | ((with_reducible refine SameW.mk rfl ?_); conv => whnf)
      | (refine LoadV.mem (i := 0) (by assumption) rfl rfl ?_; conv => whnf)
      | (refine LoadV.mem (i := 1) (by assumption) rfl rfl ?_; conv => whnf)
      | (refine LoadV.mem (i := 2) (by assumption) rfl rfl ?_; conv => whnf)
      | ((with_reducible refine Tst.beqT ?_))
      | ((with_reducible refine Tst.beqF ?_))
      | (refine Tst.yes rfl ?_; conv => whnf)
      | (refine Tst.no rfl ?_; conv => whnf)))
    have e : jn (l.take (k + 1)) = jn (l.take k) ++ ([45] ++ (l[k]).data.toList) := by
      rw [List.take_succ_eq_append_getElem hk, jn_snoc, if_neg (by intro e; have h9 := congrArg List.length e; rw [List.length_take, List.length_nil] at h9; omega)]
    have el : (jn (l.take (k + 1))).length = (jn (l.take k)).length + 1 + (l[k]).size := by rw [e]; simp; omega
    refine ⟨(k + 1, A', c'), ⟨rfl, by simp only [el]; rfl, rfl, trivial⟩, ⟨by simp only; omega, ?_⟩, by simp only; omega⟩
    simp only
    rw [el, e, byteCells_append', byteCells_append', ← List.append_assoc]
    exact hR6
  · have hk : k < l.length := by omega
    obtain rfl : k = 0 := by omega
    refine ElemV.sl (hS.ext hR.mem.ext) rfl 0 rfl hk ?_
    intro b off hc
    refine LoadV.cell0 hc ?_
    (conv => whnf)
    have hxk := hx _ (List.getElem_mem hk)
    refine AppV.rwS (i := _) Tryz.underlying45 Tryz.underlying9 (Option.some_get (by kernel_rfl)).symm (by kernel_rfl) (by kernel_rfl) (by kernel_rfl) hR (fun x hx c fz => by simp at hx) (by omega) fun v' w6 hR6 => ?_
    obtain ⟨A', c', rfl⟩ := hR6.slice
    (conv => whnf)
    (repeat' (first
      | (refine Obl.mk ⟨by omega, by omega⟩ ?_; conv => whnf)
      | (refine Obl.mk ⟨by omega, by omega, ⟨by omega, by omega⟩⟩ ?_; conv => whnf)
      | ((with_reducible refine Tst.tt ?_); conv => whnf)
      | ((with_reducible refine Tst.ff ?_); conv => whnf)
      | ((with_reducible refine Tst.dec (fun _ => ?_) (fun _ => ?_)) <;> first | (exfalso; omega) | (conv => whnf))
      | ((with_reducible refine Tst.not ?_))
      | (refine Wit.conv ⟨by omega, by omega⟩ ?_; conv => whnf)
      | ((with_reducible refine IdxV.nat (by omega) ?_); conv => whnf)
      | ((with_reducible refine SameW.mk rfl ?_); conv => whnf)
      | (refine LoadV.mem (i := 0) (by assumption) rfl rfl ?_; conv => whnf)
      | (refine LoadV.mem (i := 1) (by assumption) rfl rfl ?_; conv => whnf)
      | (refine LoadV.mem (i := 2) (by assumption) rfl rfl ?_; conv => whnf)
      | ((with_reducible refine Tst.beqT ?_))
      | ((with_reducible refine Tst.beqF ?_))
      | (refine Tst.yes rfl ?_; conv => whnf)
      | (refine Tst.no rfl ?_; conv => whnf)))
    have e : jn (l.take (0 + 1)) = jn (l.take 0) ++ (l[0]).data.toList := by
      rw [List.take_succ_eq_append_getElem hk]; simp [jn]
    have el : (jn (l.take (0 + 1))).length = (jn (l.take 0)).length + (l[0]).size := by rw [e]; simp
    refine ⟨(1, A', c'), ⟨rfl, by simp only [el]; rfl, rfl, trivial⟩, ⟨by simp only; omega, ?_⟩, by simp only; omega⟩
    simp only
    rw [show (1 : Nat) = 0 + 1 from rfl, el, e, byteCells_append']
    exact hR6
  · obtain rfl : k = l.length := by omega
    rw [List.take_length] at hR ⊢
    refine BytesS.rw hR ?_
    (conv => whnf)
    exact ⟨rfl, hR.mem.ext⟩
end Go.Proofs.YtajgbepghniciaaGreatDoor
namespace Go.Proofs.YtajgbepghniciaaGreatDoor
open Go.RowKit
namespace V
structure StepG (A : Option Value → Prop) (K : Option Value → Prop) : Prop where
  h : ∃ v, A v ∧ K v
theorem StepG.of {A K : Option Value → Prop} (v : Value) (h : A (some v)) (hk : K (some v)) : StepG A K := ⟨some v, h, hk⟩
theorem StepG.any {A K : Option Value → Prop} (h : A none) (hk : K none) : StepG A K := ⟨none, h, hk⟩
def frG : List (Nat × Nat) → (Nat → Value) → (Nat → Value) → (Nat → Value)
  | [], _, ρ => ρ
  | (k, d) :: es, vals, ρ => frG es vals (upd ρ d (vals k))
def pushG (k : Nat) (es : List (Nat × Nat)) : Option Tmp → Option Value → List (Nat × Nat)
  | some d, none => (k, d) :: es
  | _, _ => es
def isG : Option Value → Value → Prop
  | some c, x => x = c
  | none, _ => True
def regG (P : Program) (ops : List Oper) (I : (Nat → Bool) → (Nat → Value) → World → Prop) (Q : (Nat → Value) → World → Prop) : List Oper → Nat → List (Nat × Nat) → (Nat → Value) → Prop
  | [], _, es, ρ => ∀ vals w, I (fun _ => true) vals w → Q (frG es vals ρ) w
  | o :: l, k, es, ρ => StepG (fun v => ∀ S vals w, S k = false → (∀ j ∈ preds o, S j = true) → I S vals w → guardO P ops o (frG es vals ρ) w fun v' w' => isG v v' ∧ I (setS S k) (upd vals k v') w')
      (fun v => regG P ops I Q l (k + 1) (pushG k es o.dst v) (updO ρ o.dst v))
def entG (d : Option Tmp) (v : Option Value) : Ent := ⟨d, v, fun x _ => isG v x⟩
structure AgreeG (es : List (Nat × Nat)) (F : List Ent) : Prop where
  in_ : ∀ k d, (k, d) ∈ es → F[k]? = some (entG (some d) none)
  all : ∀ k d φ, F[k]? = some ⟨some d, none, φ⟩ → k ∈ es.map (·.1)
theorem AgreeG.push {es : List (Nat × Nat)} {F : List Ent} (h : AgreeG es F) (d : Option Tmp) (v : Option Value) : AgreeG (pushG F.length es d v) (F ++ [entG d v]) := by
  have old : ∀ k d', (k, d') ∈ es → (F ++ [entG d v])[k]? = some (entG (some d') none) := fun k d' hk => by
    have := h.in_ k d' hk
    rw [List.getElem?_append_left (List.getElem?_eq_some_iff.1 this).1, this]
  have back : ∀ k d' φ, (F ++ [entG d v])[k]? = some ⟨some d', none, φ⟩ → k ∈ es.map (·.1) ∨ (k = F.length ∧ entG d v = ⟨some d', none, φ⟩) := fun k d' φ hk => by
    rcases Nat.lt_or_ge k F.length with hlt | hge
    · rw [List.getElem?_append_left hlt] at hk; exact .inl (h.all _ _ _ hk)
    · rw [List.getElem?_append_right hge] at hk
      obtain ⟨h0, h1⟩ := List.getElem?_eq_some_iff.1 hk
      have : k - F.length = 0 := by simpa using h0
      refine .inr ⟨by omega, ?_⟩
      simpa [this] using h1
  cases d with
  | none =>
    refine ⟨old, fun k d' φ hk => ?_⟩
    rcases back k d' φ hk with hk | ⟨rfl, e⟩
    · exact hk
    · cases e
  | some d =>
    cases v with
    | none =>
      refine ⟨fun k d' hk => ?_, fun k d' φ hk => ?_⟩
      · rcases List.mem_cons.1 hk with e | hk
        · cases e; rw [List.getElem?_append_right (Nat.le_refl _), Nat.sub_self]; rfl
        · exact old k d' hk
      · rcases back k d' φ hk with hk | ⟨rfl, _⟩
        · exact List.mem_cons_of_mem _ hk
        · exact List.mem_cons_self ..
    | some c =>
      refine ⟨old, fun k d' φ hk => ?_⟩
      rcases back k d' φ hk with hk | ⟨rfl, e⟩
      · exact hk
      · cases e
theorem fr_frG {es0 : List Ent} {vals : Nat → Value} : ∀ (es : List (Nat × Nat)) (ρ : Nat → Value), (∀ k d, (k, d) ∈ es → es0[k]? = some (entG (some d) none)) → fr es0 vals (es.map (·.1)) ρ = frG es vals ρ := by
  intro es
  induction es with
  | nil => intro ρ _; rfl
  | cons x es ih =>
    obtain ⟨k, d⟩ := x
    intro ρ h
    show fr es0 vals (k :: es.map (·.1)) ρ = _
    unfold fr
    rw [frS_some (d := d) (φ := fun x _ => isG none x) (by rw [getL_eq]; exact h k d (List.mem_cons_self ..)), ih _ fun k d hk => h k d (List.mem_cons_of_mem _ hk)]
    rfl
section
variable {P : Program} {n : Nat}
def SpecG (P : Program) (ops : List Oper) (I : (Nat → Bool) → (Nat → Value) → World → Prop) (F : List Ent) (ρ0 : Nat → Value) (i : Nat) (o : Oper) (e : Ent) : Prop :=
  ∃ v es, e = entG o.dst v ∧ AgreeG es (F.take i) ∧ ∀ S vals w, S i = false → (∀ j ∈ preds o, S j = true) → I S vals w → guardO P ops o (frG es vals (sfr (F.take i) ρ0)) w fun v' w' => isG v v' ∧ I (setS S i) (upd vals i v') w'
theorem regG_all {ops : List Oper} {I : (Nat → Bool) → (Nat → Value) → World → Prop} {Q : (Nat → Value) → World → Prop} (l : List Oper) : ∀ (es : List (Nat × Nat)) (F : List Ent) (ρ0 : Nat → Value), AgreeG es F → regG P ops I Q l F.length es (sfr F ρ0) →
    ∃ E : List Ent, E.length = l.length ∧ (∀ i o e, l[i]? = some o → E[i]? = some e → SpecG P ops I (F ++ E) ρ0 (F.length + i) o e) ∧ ∃ es', AgreeG es' (F ++ E) ∧ ∀ vals w, I (fun _ => true) vals w → Q (frG es' vals (sfr (F ++ E) ρ0)) w := by
  induction l with
  | nil => intro es F ρ0 hA h; exact ⟨[], rfl, fun i o e hi => by simp at hi, es, by rw [List.append_nil]; exact hA, by rw [List.append_nil]; exact h⟩
  | cons o l ih =>
    intro es F ρ0 hA h
    obtain ⟨v, hv, hK⟩ := h.h
    have e1 : updO (sfr F ρ0) o.dst v = sfr (F ++ [entG o.dst v]) ρ0 := by rw [sfr_append]; rfl
    have e2 : F.length + 1 = (F ++ [entG o.dst v]).length := by simp
    rw [e1, e2] at hK
    obtain ⟨E, h1, h2, h3⟩ := ih _ _ ρ0 (hA.push o.dst v) hK
    refine ⟨entG o.dst v :: E, by simp [h1], fun i o' e hi he => ?_, by simpa using h3⟩
    cases i with
    | zero =>
      simp at hi he
      subst hi he
      exact ⟨v, es, rfl, by simpa using hA, by simpa using hv⟩
    | succ i =>
      simp at hi he
      have := h2 i o' e hi he
      simpa [Nat.add_assoc, Nat.add_comm 1 i] using this
variable {ops : Array Oper} {w0 : World} {E : List Ent} {ρ : Nat → Value}
theorem wpAny_gen {I : (Nat → Bool) → (Nat → Value) → World → Prop} {Q : (Nat → Value) → World → Prop} {Q' : Exit → Act → World → Prop} (hQ : ∀ ρ a w, St n ρ a → Q ρ w → Q' .normal a w) (hS : ShapeP n ops) (hl : E.length = ops.size)
    (hE : ∀ (i : Nat) (o : Oper) (e : Ent), ops[i]? = some o → E[i]? = some e → SpecG P ops.toList I E ρ i o e) (hF : ∃ es', AgreeG es' E ∧ ∀ vals w, I (fun _ => true) vals w → Q (frG es' vals (sfr E ρ)) w) :
    ∀ (fuel : Nat) (listed : Array Bool) (vals ρa : Nat → Value) (a : Act) (w : World), listed.size = ops.size → listed.toList.count false ≤ fuel → InvD n E w0 ρ listed vals ρa a w0 → I (fun j => listed.getD j true) vals w → wpAny P .any ops Q' fuel listed a w := by
  obtain ⟨ef, hA, hF⟩ := hF
  have hd : ∀ (i : Nat) (o : Oper) (e : Ent), ops[i]? = some o → E[i]? = some e → EntOk e o := fun i o e h1 h2 => by
    obtain ⟨v, _, rfl, _⟩ := hE i o e h1 h2
    refine ⟨rfl, fun _ _ _ h _ => h, fun c hc x w hx => ?_⟩
    have hc : v = some c := hc
    subst hc
    exact hx
  have hlt : ∀ (k : Nat) (e : Ent), E[k]? = some e → k < ops.size := fun k e hk => by
    rw [← hl]; exact (List.getElem?_eq_some_iff.1 hk).1
  have hfree : ∀ (k : Nat) (e : Ent), E[k]? = some e → ∀ x w w', e.φ x w → e.φ x w' := fun k e he x w w' h => by
    have hk := hlt k e he
    obtain ⟨v, _, rfl, _⟩ := hE k _ e (Array.getElem?_eq_getElem hk) he
    exact h
  have final : ∀ (listed : Array Bool) (vals ρa : Nat → Value) (a : Act) (w : World), (∀ k, k < ops.size → listed.getD k false = true) → listed.size = ops.size → InvD n E w0 ρ listed vals ρa a w0 → I (fun j => listed.getD j true) vals w → Q' .normal a w := fun listed vals ρa a w hall hsz D hI => by
    have hT : (fun j => listed.getD j true) = fun _ => true := by
      funext j
      rcases Nat.lt_or_ge j listed.size with hj | hj
      · rw [getD_tf hj]; exact hall j (by omega)
      · simp [Array.getElem?_eq_none hj]
    rw [hT] at hI
    have he : frG ef vals (sfr E ρ) = ρa := by
      funext t
      have := frame_at hd hl hS D E.length (ef.map (·.1)) t (fun k e hk hdt hki => ⟨hall k (hlt k e hk), fun hv => by
        obtain ⟨d, v, φ⟩ := e
        cases hv
        cases hdt
        exact hA.all k _ _ hk⟩) (fun k e hk _ _ => by rw [hl]; exact hlt k e hk)
      rw [List.take_length, fr_frG _ _ hA.in_] at this
      exact this
    exact hQ _ _ _ D.st (he ▸ hF vals w hI)
  intro fuel
  induction fuel with
  | zero =>
    intro listed vals ρa a w hsz hc D hI
    have hall : ∀ k, k < ops.size → listed.getD k false = true := fun k hk => by
      have h1 := List.count_eq_zero.1 (show listed.toList.count false = 0 by omega)
      have hk' : k < listed.size := by omega
      cases hv : listed[k] with
      | true => simp [hk', hv]
      | false => exact absurd (by rw [← hv]; exact Array.mem_toList_iff.2 (Array.getElem_mem hk')) h1
    exact ⟨ready_all fun k hk => by rw [getD_tf (by omega)]; exact hall k hk, final listed vals ρa a w hall hsz D hI⟩
  | succ fuel ih =>
    intro listed vals ρa a w hsz hc D hI
    refine ⟨fun hr => final listed vals ρa a w (fun k hk => ready_done hS hsz hr k hk) hsz D hI, fun i hi => ?_⟩
    obtain ⟨hun, o, ho, hall⟩ := mem_ready.1 hi
    have hio : i < ops.size := (Array.getElem?_eq_some_iff.1 ho).1
    have hnl : listed.getD i false = false := by rw [← getD_tf (by omega)]; exact hun
    have hpl : ∀ k ∈ preds o, listed.getD k false = true := fun k hk => by
      obtain ⟨e, he, hb, hon⟩ := mem_predsL.1 hk
      rw [← hon]
      exact hall e (by simpa using he) (by rw [bindB_eq]; exact hb)
    have hiE : E[i]? = some E[i] := List.getElem?_eq_getElem (by omega)
    obtain ⟨v, es, he, hAi, hspec⟩ := hE i o E[i] ho hiE
    have hlp : ∀ k ∈ preds o, listed.getD k true = true := fun k hk => by
      have := hpl k hk
      rcases Nat.lt_or_ge k listed.size with hj | hj
      · rw [getD_tf hj]; exact this
      · simp [Array.getElem?_eq_none hj]
    have h := hspec (fun j => listed.getD j true) vals w hun hlp hI
    have hag : ∀ t ∈ o.looksAt ops, frG es vals (sfr (E.take i) ρ) t = ρa t := fun t ht => by
      have hp : ∀ (k : Nat) (e : Ent), E[k]? = some e → e.d = some t → k ∈ preds o := fun k e hk hdt => by
        have hk' := hlt k e hk
        exact hS.look i o k ops[k] t ho (Array.getElem?_eq_getElem hk') ((hd k _ e (Array.getElem?_eq_getElem hk') hk).d ▸ hdt) ht
      have := frame_at hd hl hS D i (es.map (·.1)) t (fun k e hk hdt hki => ⟨hpl k (hp k e hk hdt), fun hv => by
        obtain ⟨d, v, φ⟩ := e
        cases hv
        cases hdt
        exact hAi.all k _ _ (by rw [List.getElem?_take, if_pos hki]; exact hk)⟩) (fun k e hk hdt _ => hS.lt i o ho k (hp k e hk hdt))
      rw [fr_frG _ _ hAi.in_] at this
      exact this
    refine guardO_ok ho hS D.st hag h fun v' w' ⟨hv, hI'⟩ => ?_
    have hset : (fun j => (listed.setIfInBounds i true).getD j true) = setS (fun j => listed.getD j true) i := by
      funext j
      unfold setS
      by_cases hji : j = i
      · subst hji
        have : j < listed.size := by omega
        simp [this]
      · have : Nat.beq j i = false := Bool.eq_false_iff.2 fun e => hji (Nat.eq_of_beq_eq_true e)
        rw [this, getD_set_ne true (fun e => hji e.symm)]
        rfl
    have hvals : (fun k => if k = i then v' else vals k) = upd vals i v' := by
      funext k
      by_cases hk : k = i
      · subst hk; simp [upd]
      · rw [if_neg hk, upd_other _ _ _ _ hk]
    refine ih _ (upd vals i v') _ _ _ (by simp [hsz]) (by have := countP_set listed i hun; omega) (hvals ▸ InvD.step (v := v') hS hl hd hfree D hsz ho hiE hnl (Ext.refl _) (by rw [he]; exact hv)) ?_
    rw [hset]
    exact hI'
end
/-- What is asked at a region that draws its order: an invariant over the operations that are done and the values that are not settled. -/
theorem DrawV.gen {P : Program} {n id : Nat} {ops : Array Oper} {Q : Exit → (Nat → Value) → World → Prop} {ρ : Nat → Value} {w : World} (I : (Nat → Bool) → (Nat → Value) → World → Prop) (hm : P.follows .mixedOrders = true) (hB : shapeD n ops = true)
    (h0 : ∀ vals, I (fun j => Nat.ble ops.size j) vals w.drew) (h : regG P ops.toList I (fun ρ' w' => Q .normal ρ' w') ops.toList 0 [] ρ) : DrawV P n id ops Q ρ w := by
  refine ⟨fun a ha => wp_region_any hm ?_⟩
  obtain ⟨E, h1, h2, h3⟩ := regG_all ops.toList [] [] ρ (AgreeG.mk (fun _ _ h => by cases h) (fun _ _ _ h => by simp at h)) h
  refine wpAny_gen (I := I) (Q := fun ρ' w' => Q .normal ρ' w') (E := E) (w0 := w.drew) (ρ := ρ) (fun ρ a w h1 h2 => ⟨ρ, h1, h2⟩) (shapeD_ok hB) (by simpa using h1) (fun i o e ho he => ?_) (by simpa using h3) _ _ (fun _ => undef) ρ a _ (by simp) (by simp) ⟨Ext.refl _, ha, ?_, ?_, fun t _ => rfl⟩ ?_
  · have := h2 i o e (by simpa using ho) he
    simpa using this
  · intro k hk; rw [getD_replicate_false'] at hk; cases hk
  · intro k hk; rw [getD_replicate_false'] at hk; cases hk
  · have : (fun j => (Array.replicate ops.size false).getD j true) = fun j => Nat.ble ops.size j := by
      funext j
      rcases Nat.lt_or_ge j ops.size with hj | hj
      · have h2 : Nat.ble ops.size j = false := Bool.eq_false_iff.2 fun e => by have := Nat.le_of_ble_eq_true e; omega
        simp [hj, h2]
      · rw [Nat.ble_eq_true_of_le hj]; simp [hj]
    rw [this]
    exact h0 _
end V
end Go.Proofs.YtajgbepghniciaaGreatDoor
namespace Go.Proofs.YtajgbepghniciaaGreatDoor
open Go.RowKit V
set_option maxRecDepth 100000

theorem mem_store {w0 w : World} {L : List (Nat × Obj)} {b off : Nat} {cs : Array Value} {t : TypeId} {v : Value} {K : World → Prop} (hm : Mem w0 w L) (hi : (b, Obj.cells cs t (0, 0)) ∈ L) (ho : off < cs.size) (h1 : oneCell v = true)
    (hk : ∀ w' L', Mem w0 w' L' → (b, Obj.cells (cs.setIfInBounds off v) t (0, 0)) ∈ L' → (∀ y ∈ L, y.1 ≠ b → y ∈ L') → K w') : StoreV w b off v K := by
  obtain ⟨i, hi⟩ := List.mem_iff_getElem?.1 hi
  exact StoreV.mem hm hi ho h1 fun w' h => hk w' _ h (set_mem hi).1 (set_mem hi).2
theorem V.SliceV.tailA {A : Option Addr} {g off n m c : Nat} {k : IntKind} {K : Value → Prop} (hA : A = some ⟨g, off, none⟩) (hn : n = m + 1) (hc : n ≤ c)
    (hk : ∀ A' c', (m ≠ 0 → A' = some ⟨g, off + 1, none⟩) → m ≤ c' → K (.slice A' m c')) : SliceV 1 A n c (some (.int k 1)) none none K := by
  subst hn hA
  refine ⟨1, m + 1, c, rfl, rfl, rfl, by omega, by omega, by omega, fun h => by simp at h, fun A' hA' => ?_⟩
  have hk := hk A' (c - 1) (fun hne => ?_) (by omega)
  · simpa using hk
  · rw [if_neg (by omega)] at hA'
    rw [hA']
    show some ((⟨g, off, none⟩ : Addr).add (1 * 1)) = _
    rw [add_plain]
/-- the reader and the tag that it fills -/
structure RQ0 (w0 w : World) (O : List Nat) (rb tb : Nat) (rest : List ByteArray) (a0 : ByteArray) (vs es : List ByteArray) (A : Option Addr) (c : Nat) (X Y T4 T5 : Value) (a1 a2 a3 a6 : ByteArray) (L : List (Nat × Obj)) (R2 : List (List Value × Value)) : Prop where
  mem : Mem w0 w L
  rd : (rb, Obj.cells #[.slice A rest.length c] 376 (0, 0)) ∈ L
  tg : (tb, Obj.cells (tagC a0 a1 a2 a3 T4 T5 a6).toArray 242 (0, 0)) ∈ L
  rows : RowsP 9 O L ((vs.map Value.string, X) :: (es.map Value.string, Y) :: R2)
  sl : rest ≠ [] → ∃ g cur off, A = some ⟨g, off, none⟩ ∧ g ∈ O ∧ g ≠ rb ∧ g ≠ tb ∧ (g, Obj.cells cur 9 (0, 0)) ∈ L ∧ ∀ (j : Nat) x, rest[j]? = some x → cur[off + j]? = some (Value.string x)
  hc : rest.length ≤ c
  hrb : rb ∈ O
  htb : tb ∈ O
  ne : rb ≠ tb
  all : ∀ g ∈ O, ∃ o, (g, o) ∈ L
  small : ∀ x ∈ rest, x.size ≤ 1000000
def RQ (w0 w : World) (O : List Nat) (rb tb : Nat) (rest : List ByteArray) (a0 : ByteArray) (vs es : List ByteArray) (R2 : List (List Value × Value)) : Prop :=
  ∃ A c X Y a1 a2 a3 a6 L, RQ0 w0 w O rb tb rest a0 vs es A c X Y X Y a1 a2 a3 a6 L R2
section
variable {w0 w w' : World} {O : List Nat} {rb tb : Nat} {rest : List ByteArray} {a0 : ByteArray} {vs es : List ByteArray} {R2 : List (List Value × Value)}
theorem RQ.call (h : RQ w0 w O rb tb rest a0 vs es R2) (he : Ext w w') : RQ w0 w' O rb tb rest a0 vs es R2 := by
  obtain ⟨A, c, X, Y, a1, a2, a3, a6, L, h⟩ := h
  exact ⟨A, c, X, Y, a1, a2, a3, a6, L, { h with mem := h.mem.call he }⟩
theorem RQ.drew (h : RQ w0 w O rb tb rest a0 vs es R2) : RQ w0 w.drew O rb tb rest a0 vs es R2 := h.call (Ext.refl w).drew
theorem RQ.ext (h : RQ w0 w O rb tb rest a0 vs es R2) : Ext w0 w := by
  obtain ⟨A, c, X, Y, a1, a2, a3, a6, L, h⟩ := h
  exact h.mem.ext
theorem RQ.small (h : RQ w0 w O rb tb rest a0 vs es R2) : ∀ x ∈ rest, x.size ≤ 1000000 := by
  obtain ⟨A, c, X, Y, a1, a2, a3, a6, L, h⟩ := h
  exact h.small
theorem RQ0.slAt {A : Option Addr} {c : Nat} {X Y T4 T5 : Value} {a1 a2 a3 a6 : ByteArray} {L : List (Nat × Obj)} (h : RQ0 w0 w O rb tb rest a0 vs es A c X Y T4 T5 a1 a2 a3 a6 L R2) : SlAt V.encS 1 w A rest := by
  refine ⟨fun hne => ?_⟩
  obtain ⟨g, cur, off, rfl, _, _, _, hg, hx⟩ := h.sl hne
  refine ⟨g, off, rfl, fun j x hj k v hv => ?_⟩
  cases k with
  | succ k => simp [V.encS] at hv
  | zero =>
    simp only [V.encS, List.getElem?_cons_zero, Option.some.injEq] at hv
    subst hv
    rw [cell_heap (h.mem.get hg), Nat.add_zero, Nat.mul_one]
    exact hx j x hj
theorem RQ.ldr {K : Value → Prop} (h : RQ w0 w O rb tb rest a0 vs es R2) (hk : ∀ A c, SlAt V.encS 1 w A rest → rest.length ≤ c → K (.slice A rest.length c)) : LoadV w rb 0 K := by
  obtain ⟨A, c, X, Y, a1, a2, a3, a6, L, h⟩ := h
  exact LoadV.own (h.mem.get h.rd) rfl (hk A c h.slAt h.hc)
theorem RQ.ld0 {K : Value → Prop} (h : RQ w0 w O rb tb rest a0 vs es R2) (hk : K (.string a0)) : LoadV w tb 0 K := by
  obtain ⟨A, c, X, Y, a1, a2, a3, a6, L, h⟩ := h
  exact LoadV.own (h.mem.get h.tg) rfl hk
theorem RQ0.tag {A : Option Addr} {c : Nat} {X Y T4 T5 : Value} {a1 a2 a3 a6 b0 b1 b2 b3 b6 : ByteArray} {L L' : List (Nat × Obj)} (h : RQ0 w0 w O rb tb rest a0 vs es A c X Y T4 T5 a1 a2 a3 a6 L R2) (hm : Mem w0 w' L')
    (ht : (tb, Obj.cells (tagC b0 b1 b2 b3 X Y b6).toArray 242 (0, 0)) ∈ L') (hk : ∀ y ∈ L, y.1 ≠ tb → y ∈ L') : RQ w0 w' O rb tb rest b0 vs es R2 := by
  refine ⟨A, c, X, Y, b1, b2, b3, b6, L', hm, hk _ h.rd h.ne, ht, h.rows.keep fun y hy hO => hk y hy fun e => hO (e ▸ h.htb), fun hne => ?_, h.hc, h.hrb, h.htb, h.ne, fun g hg => ?_, h.small⟩
  · obtain ⟨g, cur, off, h1, h2, h3, h4, h5, h6⟩ := h.sl hne
    exact ⟨g, cur, off, h1, h2, h3, h4, hk _ h5 h4, h6⟩
  · by_cases e : g = tb
    · subst e; exact ⟨_, ht⟩
    · obtain ⟨o, ho⟩ := h.all g hg
      exact ⟨o, hk _ ho e⟩
theorem RQ.st {K : World → Prop} (h : RQ w0 w O rb tb rest a0 vs es R2) {k : Nat} (hk : k = 1 ∨ k = 2 ∨ k = 3 ∨ k = 6) (s : ByteArray) (hK : ∀ w', RQ w0 w' O rb tb rest a0 vs es R2 → K w') : StoreV w tb k (.string s) K := by
  obtain ⟨A, c, X, Y, a1, a2, a3, a6, L, h⟩ := h
  have hlt : k < (tagC a0 a1 a2 a3 X Y a6).toArray.size := by simp [tagC]; omega
  refine mem_store h.mem h.tg hlt rfl fun w' L' hm ht hkp => hK w' ?_
  rcases hk with rfl | rfl | rfl | rfl
  all_goals exact h.tag hm ht hkp
theorem RQ.st0 {K : World → Prop} (h : RQ w0 w O rb tb rest a0 vs es R2) (s : ByteArray) (hK : ∀ w', RQ w0 w' O rb tb rest s vs es R2 → K w') : StoreV w tb 0 (.string s) K := by
  obtain ⟨A, c, X, Y, a1, a2, a3, a6, L, h⟩ := h
  exact mem_store h.mem h.tg (by simp [tagC]) rfl fun w' L' hm ht hkp => hK w' (h.tag hm ht hkp)
end
section
variable {w0 w w' : World} {O : List Nat} {rb tb : Nat} {rest : List ByteArray} {a0 : ByteArray} {vs es : List ByteArray} {R2 : List (List Value × Value)} {X Y T4 T5 : Value} {A : Option Addr} {c : Nat} {a1 a2 a3 a6 : ByteArray} {L L' : List (Nat × Obj)}
theorem RQ0.call (h : RQ0 w0 w O rb tb rest a0 vs es A c X Y T4 T5 a1 a2 a3 a6 L R2) (he : Ext w w') : RQ0 w0 w' O rb tb rest a0 vs es A c X Y T4 T5 a1 a2 a3 a6 L R2 := { h with mem := h.mem.call he }
theorem RQ0.grow {X' Y' : Value} {vs' es' : List ByteArray} {R' : List (List Value × Value)} (h : RQ0 w0 w O rb tb rest a0 vs es A c X Y T4 T5 a1 a2 a3 a6 L R2) (hm : Mem w0 w' L') (hR : RowsP 9 O L' ((vs'.map Value.string, X') :: (es'.map Value.string, Y') :: R')) (hk : ∀ y ∈ L, y.1 ∈ O → y ∈ L') : RQ0 w0 w' O rb tb rest a0 vs' es' A c X' Y' T4 T5 a1 a2 a3 a6 L' R' := by
  refine ⟨hm, hk _ h.rd h.hrb, hk _ h.tg h.htb, hR, fun hne => ?_, h.hc, h.hrb, h.htb, h.ne, fun g hg => ?_, h.small⟩
  · obtain ⟨g, cur, off, h1, h2, h3, h4, h5, h6⟩ := h.sl hne
    exact ⟨g, cur, off, h1, h2, h3, h4, hk _ h5 h2, h6⟩
  · obtain ⟨o, ho⟩ := h.all g hg
    exact ⟨o, hk _ ho hg⟩
theorem V.RowsP.nilrow {e : TypeId} {R : List (List Value × Value)} (h : RowsP e O L R) : RowsP e O L (R ++ [([], .slice none 0 0)]) := by
  have back : ∀ (k : Nat) p, (R ++ [([], Value.slice none 0 0)])[k]? = some p → R[k]? = some p ∨ p = ([], .slice none 0 0) := fun k p hp => by
    rw [List.getElem?_append] at hp
    split at hp
    · exact .inl hp
    · exact .inr (by have := List.mem_of_getElem? hp; simpa using this)
  refine ⟨fun k p hp => ?_, fun k p g hp hg => ?_, fun k k' p p' g hp hp' hne hg => ?_⟩
  · rcases back k p hp with hp | rfl
    · exact h.row k p hp
    · exact RowB.nil e L
  · rcases back k p hp with hp | rfl
    · exact h.out k p g hp hg
    · cases hg
  · rcases back k p hp with hp | rfl
    · rcases back k' p' hp' with hp' | rfl
      · exact h.ap k k' p p' g hp hp' hne hg
      · intro hg'; cases hg'
    · cases hg
theorem V.RowsP.newrow {e : TypeId} {R : List (List Value × Value)} {x : Value} {b : Nat} (h : RowsP e O L R) (hb : ∀ y ∈ L, y.1 ≠ b) (hO : b ∉ O) : RowsP e O ((b, .cells #[x] e (0, 0)) :: L) (R ++ [([x], .slice (some ⟨b, 0, none⟩) 1 1)]) := by
  have back : ∀ (k : Nat) p, (R ++ [([x], Value.slice (some ⟨b, 0, none⟩) 1 1)])[k]? = some p → R[k]? = some p ∨ (k = R.length ∧ p = ([x], .slice (some ⟨b, 0, none⟩) 1 1)) := fun k p hp => by
    rw [List.getElem?_append] at hp
    split at hp
    · exact .inl hp
    · obtain ⟨h1, h2⟩ := List.getElem?_eq_some_iff.1 hp
      simp at h1
      have : k - R.length = 0 := by omega
      refine .inr ⟨by omega, ?_⟩
      simpa [this] using h2.symm
  have fresh : ∀ (k : Nat) p, R[k]? = some p → p.2.ownBlock ≠ some b := fun k p hp hg => by
    obtain ⟨o, hin⟩ := (h.row k p hp).in_ hg
    exact hb _ hin rfl
  refine ⟨fun k p hp => ?_, fun k p g hp hg => ?_, fun k k' p p' g hp hp' hne hg => ?_⟩
  · rcases back k p hp with hp | ⟨_, rfl⟩
    · exact (h.row k p hp).keep fun y hy _ => List.mem_cons_of_mem _ hy
    · exact ⟨.inr ⟨b, 1, #[x], rfl, List.mem_cons_self .., Nat.le_refl _, by decide, rfl, rfl⟩⟩
  · rcases back k p hp with hp | ⟨_, rfl⟩
    · exact h.out k p g hp hg
    · cases hg; exact hO
  · rcases back k p hp with hp | ⟨e1, rfl⟩ <;> rcases back k' p' hp' with hp' | ⟨e2, rfl⟩
    · exact h.ap k k' p p' g hp hp' hne hg
    · intro hg'; cases hg'; exact fresh k p hp hg
    · cases hg; exact fresh k' p' hp'
    · exact absurd (e1.trans e2.symm) hne
theorem V.RowsP.cut {e : TypeId} {R R' : List (List Value × Value)} (h : RowsP e O L (R ++ R')) : RowsP e O L R := by
  have up : ∀ (k : Nat) p, R[k]? = some p → (R ++ R')[k]? = some p := fun k p hp => by
    rw [List.getElem?_append_left (List.getElem?_eq_some_iff.1 hp).1, hp]
  exact ⟨fun k p hp => h.row k p (up k p hp), fun k p g hp hg => h.out k p g (up k p hp) hg, fun k k' p p' g hp hp' hne hg => h.ap k k' p p' g (up k p hp) (up k' p' hp') hne hg⟩
theorem RQ.nilrow (h : RQ w0 w O rb tb rest a0 vs es []) : RQ w0 w O rb tb rest a0 vs es [([], .slice none 0 0)] := by
  obtain ⟨A, c, X, Y, a1, a2, a3, a6, L, h⟩ := h
  exact ⟨A, c, X, Y, a1, a2, a3, a6, L, { h with rows := h.rows.nilrow }⟩
theorem RQ.cut (h : RQ w0 w O rb tb rest a0 vs es R2) : RQ w0 w O rb tb rest a0 vs es [] := by
  obtain ⟨A, c, X, Y, a1, a2, a3, a6, L, h⟩ := h
  exact ⟨A, c, X, Y, a1, a2, a3, a6, L, { h with rows := RowsP.cut (R := [(vs.map Value.string, X), (es.map Value.string, Y)]) (R' := R2) h.rows }⟩
theorem NewV.rq {o : Obj} {K : Nat → World → Prop} (h : RQ w0 w O rb tb rest a0 vs es R2) (hk : ∀ b w', RQ w0 w' O rb tb rest a0 vs es R2 → w'.heap[b]? = some o → K b w') : NewV w o K :=
  ⟨fun b w' hb hw => hk b w' (h.call (by subst hw; exact (Ext.refl w).alloc o)) (by subst hb hw; exact heap_alloc_new w o)⟩
theorem NewV.rq0 {o : Obj} {K : Nat → World → Prop} (h : RQ0 w0 w O rb tb rest a0 vs es A c X Y T4 T5 a1 a2 a3 a6 L R2) (hk : ∀ b w', RQ0 w0 w' O rb tb rest a0 vs es A c X Y T4 T5 a1 a2 a3 a6 L R2 → w'.heap[b]? = some o → K b w') : NewV w o K :=
  ⟨fun b w' hb hw => hk b w' (h.call (by subst hw; exact (Ext.refl w).alloc o)) (by subst hb hw; exact heap_alloc_new w o)⟩
theorem NewV.rqrow {x : Value} {K : Nat → World → Prop} (h : RQ w0 w O rb tb rest a0 vs es []) (hk : ∀ b w', RQ w0 w' O rb tb rest a0 vs es [([x], .slice (some ⟨b, 0, none⟩) 1 1)] → K b w') : NewV w (.cells #[x] 9 (0, 0)) K := by
  obtain ⟨A, c, X, Y, a1, a2, a3, a6, L, h⟩ := h
  refine ⟨fun b w' hb hw => hk b w' ?_⟩
  have hlt : ∀ y ∈ L, y.1 ≠ b := fun y hy e => by have := h.mem.lt (o := y.2) (b := y.1) hy; omega
  have hO : b ∉ O := fun hg => by
    obtain ⟨o, ho⟩ := h.all b hg
    exact hlt _ ho rfl
  have hr := RowsP.newrow (x := x) h.rows hlt hO
  exact ⟨A, c, X, Y, a1, a2, a3, a6, _, h.grow (h.mem.new hb hw) hr fun y hy _ => List.mem_cons_of_mem _ hy⟩
/-- the row beside grows -/
theorem RQ.appL {l : List ByteArray} {x : ByteArray} {nb : Nat} {B : Option Addr} {d ty : TypeId} {K : Value → World → Prop} (h : RQ w0 w O rb tb rest a0 vs es [(l.map Value.string, .slice B l.length d)]) (hb : w.heap[nb]? = some (.cells #[.string x] 9 (0, 0))) (hl : l.length ≤ 7000000000000)
    (hk : ∀ B' d' w', RQ w0 w' O rb tb rest a0 vs es [((l ++ [x]).map Value.string, .slice B' (l ++ [x]).length d')] → K (.slice B' (l.length + 1) d') w') : AppV Tryz.prog #[37, 37] ty (.slice B l.length d) (.slice (some ⟨nb, 0, none⟩) 1 1) w K := by
  obtain ⟨A, c, X, Y, a1, a2, a3, a6, L, h⟩ := h
  refine h.rows.app 2 rfl strSl strI strZ (by kernel_rfl) rfl (by decide +kernel) h.mem h.all (by simp) rfl (by rw [cell_heap hb]; rfl) (by omega) ?_
  intro B' d' w' L' hm hR hkp
  refine hk B' d' w' ⟨A, c, X, Y, a1, a2, a3, a6, L', h.grow hm ?_ hkp⟩
  rw [List.map_append, List.length_append]
  exact hR
theorem RQ.rowL {l : List ByteArray} {B : Option Addr} {n d : Nat} (h : RQ w0 w O rb tb rest a0 vs es [(l.map Value.string, .slice B n d)]) : SlAt V.encS 1 w B l := by
  obtain ⟨A, c, X, Y, a1, a2, a3, a6, L, h⟩ := h
  exact RowB.sl (h.rows.row 2 _ rfl) h.mem
theorem RQ0.rowL {l : List ByteArray} {B : Option Addr} {n d : Nat} (h : RQ0 w0 w O rb tb rest a0 vs es A c X Y T4 T5 a1 a2 a3 a6 L [(l.map Value.string, .slice B n d)]) : SlAt V.encS 1 w B l := RowB.sl (h.rows.row 2 _ rfl) h.mem
theorem RQ0.app4 {x : ByteArray} {nb : Nat} {B : Option Addr} {d ty : TypeId} {K : Value → World → Prop} (h : RQ0 w0 w O rb tb rest a0 vs es A c (.slice B vs.length d) Y T4 T5 a1 a2 a3 a6 L R2) (hb : w.heap[nb]? = some (.cells #[.string x] 9 (0, 0))) (hl : vs.length ≤ 7000000000000)
    (hk : ∀ B' d' w' L', RQ0 w0 w' O rb tb rest a0 (vs ++ [x]) es A c (.slice B' (vs.length + 1) d') Y T4 T5 a1 a2 a3 a6 L' R2 → K (.slice B' (vs.length + 1) d') w') : AppV Tryz.prog #[37, 37] ty (.slice B vs.length d) (.slice (some ⟨nb, 0, none⟩) 1 1) w K := by
  refine h.rows.app 0 rfl strSl strI strZ (by kernel_rfl) rfl (by decide +kernel) h.mem h.all (by simp) rfl (by rw [cell_heap hb]; rfl) (by omega) ?_
  intro B' d' w' L' hm hR hkp
  refine hk B' d' w' L' (h.grow hm ?_ hkp)
  rw [List.map_append]
  exact hR
theorem RQ0.app5 {x : ByteArray} {nb : Nat} {B : Option Addr} {d ty : TypeId} {K : Value → World → Prop} (h : RQ0 w0 w O rb tb rest a0 vs es A c X (.slice B es.length d) T4 T5 a1 a2 a3 a6 L R2) (hb : w.heap[nb]? = some (.cells #[.string x] 9 (0, 0))) (hl : es.length ≤ 7000000000000)
    (hk : ∀ B' d' w' L', RQ0 w0 w' O rb tb rest a0 vs (es ++ [x]) A c X (.slice B' (es.length + 1) d') T4 T5 a1 a2 a3 a6 L' R2 → K (.slice B' (es.length + 1) d') w') : AppV Tryz.prog #[37, 37] ty (.slice B es.length d) (.slice (some ⟨nb, 0, none⟩) 1 1) w K := by
  refine h.rows.app 1 rfl strSl strI strZ (by kernel_rfl) rfl (by decide +kernel) h.mem h.all (by simp) rfl (by rw [cell_heap hb]; rfl) (by omega) ?_
  intro B' d' w' L' hm hR hkp
  refine hk B' d' w' L' (h.grow hm ?_ hkp)
  rw [List.map_append]
  exact hR
theorem RQ0.st4 {B : Option Addr} {n d : Nat} {K : World → Prop} (h : RQ0 w0 w O rb tb rest a0 vs es A c (.slice B n d) Y T4 Y a1 a2 a3 a6 L R2) (hK : ∀ w', RQ w0 w' O rb tb rest a0 vs es R2 → K w') : StoreV w tb 4 (.slice B n d) K :=
  mem_store h.mem h.tg (by simp [tagC]) rfl fun w' L' hm ht hkp => hK w' (h.tag hm ht hkp)
theorem RQ0.st5 {B : Option Addr} {n d : Nat} {K : World → Prop} (h : RQ0 w0 w O rb tb rest a0 vs es A c X (.slice B n d) X T5 a1 a2 a3 a6 L R2) (hK : ∀ w', RQ w0 w' O rb tb rest a0 vs es R2 → K w') : StoreV w tb 5 (.slice B n d) K :=
  mem_store h.mem h.tg (by simp [tagC]) rfl fun w' L' hm ht hkp => hK w' (h.tag hm ht hkp)
end
def moreB (lo hi : Nat) (dig : Bool) : List ByteArray → Bool
  | [] => false
  | x :: _ => decide (lo ≤ x.size ∧ x.size ≤ hi) && (bif dig then digA x else letA x)
theorem refNext_rq {w0 w : World} {O : List Nat} {rb tb : Nat} {x : ByteArray} {xs : List ByteArray} {a0 : ByteArray} {vs es : List ByteArray} {R2 : List (List Value × Value)} (h : RQ w0 w O rb tb (x :: xs) a0 vs es R2) :
    Gv Tryz.prog 271 [.pointer (some ⟨rb, 0, none⟩)] w fun v w' => v = .string x ∧ RQ w0 w' O rb tb xs a0 vs es R2 := by
  refine gv (by kernel_rfl) Tryz.func271 rfl Tryz.ntmps271 rfl ?_; conv => whnf
  refine h.ldr ?_
  intro A c hS hc
  (conv => whnf)
  refine ElemV.sl hS rfl 0 rfl (by simp) ?_
  intro b off hcl
  (conv => whnf)
  refine LoadV.cell0 hcl ?_
  (conv => whnf)
  obtain ⟨A, c, X, Y, a1, a2, a3, a6, L, h⟩ := h
  refine LoadV.own (h.mem.get h.rd) rfl ?_
  (conv => whnf)
  obtain ⟨g, cur, off, rfl, hg, g1, g2, g3, g4⟩ := h.sl (by simp)
  refine V.SliceV.tailA rfl rfl h.hc ?_
  intro A' c' hA' hc'
  (conv => whnf)
  refine mem_store h.mem h.rd (show 0 < 1 by omega) rfl ?_
  intro w2 L2 hm hr hk
  (conv => whnf)
  refine ⟨rfl, A', c', X, Y, a1, a2, a3, a6, L2, hm, hr, hk _ h.tg (fun e => h.ne e.symm), h.rows.keep fun y hy hO => hk y hy fun e => hO (e ▸ h.hrb), fun hne => ?_, hc', h.hrb, h.htb, h.ne, fun g' hg' => ?_, fun y hy => h.small y (List.mem_cons_of_mem _ hy)⟩
  · refine ⟨g, cur, off + 1, hA' (by simpa using hne), hg, g1, g2, hk _ g3 g1, fun j y hj => ?_⟩
    have := g4 (j + 1) y (by simpa using hj)
    rwa [show off + 1 + j = off + (j + 1) by omega]
  · by_cases e : g' = rb
    · subst e; exact ⟨_, hr⟩
    · obtain ⟨o, ho⟩ := h.all g' hg'
      exact ⟨o, hk _ ho e⟩
theorem more_rq {w0 w : World} {O : List Nat} {rb tb : Nat} {rest : List ByteArray} {a0 : ByteArray} {vs es : List ByteArray} {R2 : List (List Value × Value)} (lo hi : Nat) (dig : Bool) (h : RQ w0 w O rb tb rest a0 vs es R2) :
    Gv Tryz.prog 270 [.pointer (some ⟨rb, 0, none⟩), .int .i64 lo, .int .i64 hi, .bool dig] w fun v w' => v = .bool (moreB lo hi dig rest) ∧ RQ w0 w' O rb tb rest a0 vs es R2 := by
  refine gv (by kernel_rfl) Tryz.func270 rfl Tryz.ntmps270 rfl ?_; conv => whnf
  refine h.ldr ?_
  intro A c hS hc
  (conv => whnf)
  cases rest with
  | nil =>
    (repeat' (first
      | (refine Obl.mk ⟨by omega, by omega⟩ ?_; conv => whnf)
      | (refine Obl.mk ⟨by omega, by omega, ⟨by omega, by omega⟩⟩ ?_; conv => whnf)
      | ((with_reducible refine Tst.tt ?_); conv => whnf)
      | ((with_reducible refine Tst.ff ?_); conv => whnf)
      | ((with_reducible refine Tst.dec (fun _ => ?_) (fun _ => ?_)) <;> first | (exfalso; omega) | (conv => whnf))
      | ((with_reducible refine Tst.not ?_))
      | (refine Wit.conv ⟨by omega, by omega⟩ ?_; conv => whnf)
      | ((with_reducible refine IdxV.nat (by omega) ?_); conv => whnf)
      | ((with_reducible refine SameW.mk rfl ?_); conv => whnf)
      | (refine LoadV.mem (i := 0) (by assumption) rfl rfl ?_; conv => whnf)
      | (refine LoadV.mem (i := 1) (by assumption) rfl rfl ?_; conv => whnf)
      | (refine LoadV.mem (i := 2) (by assumption) rfl rfl ?_; conv => whnf)
      | ((with_reducible refine Tst.beqT ?_))
      | ((with_reducible refine Tst.beqF ?_))
      | (refine Tst.yes rfl ?_; conv => whnf)
      | (refine Tst.no rfl ?_; conv => whnf)))
    · exact ⟨rfl, h⟩
    · exact absurd rfl (by assumption)
  | cons x xs =>
    have hx := h.small x (List.mem_cons_self ..)
    simp only [List.length_cons] at hc ⊢
    (repeat' (first
      | (refine Obl.mk ⟨by omega, by omega⟩ ?_; conv => whnf)
      | (refine Obl.mk ⟨by omega, by omega, ⟨by omega, by omega⟩⟩ ?_; conv => whnf)
      | ((with_reducible refine Tst.tt ?_); conv => whnf)
      | ((with_reducible refine Tst.ff ?_); conv => whnf)
      | ((with_reducible refine Tst.dec (fun _ => ?_) (fun _ => ?_)) <;> first | (exfalso; omega) | (conv => whnf))
      | ((with_reducible refine Tst.not ?_))
      | (refine Wit.conv ⟨by omega, by omega⟩ ?_; conv => whnf)
      | ((with_reducible refine IdxV.nat (by omega) ?_); conv => whnf)
      | ((with_reducible refine SameW.mk rfl ?_); conv => whnf)
      | (refine LoadV.mem (i := 0) (by assumption) rfl rfl ?_; conv => whnf)
      | (refine LoadV.mem (i := 1) (by assumption) rfl rfl ?_; conv => whnf)
      | (refine LoadV.mem (i := 2) (by assumption) rfl rfl ?_; conv => whnf)
      | ((with_reducible refine Tst.beqT ?_))
      | ((with_reducible refine Tst.beqF ?_))
      | (refine Tst.yes rfl ?_; conv => whnf)
      | (refine Tst.no rfl ?_; conv => whnf)))
    refine h.ldr ?_
    intro A c hS hc
    (conv => whnf)
    (repeat' (first
      | (refine Obl.mk ⟨by omega, by omega⟩ ?_; conv => whnf)
      | (refine Obl.mk ⟨by omega, by omega, ⟨by omega, by omega⟩⟩ ?_; conv => whnf)
      | ((with_reducible refine Tst.tt ?_); conv => whnf)
      | ((with_reducible refine Tst.ff ?_); conv => whnf)
      | ((with_reducible refine Tst.dec (fun _ => ?_) (fun _ => ?_)) <;> first | (exfalso; omega) | (conv => whnf))
      | ((with_reducible refine Tst.not ?_))
      | (refine Wit.conv ⟨by omega, by omega⟩ ?_; conv => whnf)
      | ((with_reducible refine IdxV.nat (by omega) ?_); conv => whnf)
      | ((with_reducible refine SameW.mk rfl ?_); conv => whnf)
      | (refine LoadV.mem (i := 0) (by assumption) rfl rfl ?_; conv => whnf)
      | (refine LoadV.mem (i := 1) (by assumption) rfl rfl ?_; conv => whnf)
      | (refine LoadV.mem (i := 2) (by assumption) rfl rfl ?_; conv => whnf)
      | ((with_reducible refine Tst.beqT ?_))
      | ((with_reducible refine Tst.beqF ?_))
      | (refine Tst.yes rfl ?_; conv => whnf)
      | (refine Tst.no rfl ?_; conv => whnf)))
    refine ElemV.sl hS rfl 0 rfl (by simp) ?_
    intro b off hcl
    (conv => whnf)
    (repeat' (first
      | (refine Obl.mk ⟨by omega, by omega⟩ ?_; conv => whnf)
      | (refine Obl.mk ⟨by omega, by omega, ⟨by omega, by omega⟩⟩ ?_; conv => whnf)
      | ((with_reducible refine Tst.tt ?_); conv => whnf)
      | ((with_reducible refine Tst.ff ?_); conv => whnf)
      | ((with_reducible refine Tst.dec (fun _ => ?_) (fun _ => ?_)) <;> first | (exfalso; omega) | (conv => whnf))
      | ((with_reducible refine Tst.not ?_))
      | (refine Wit.conv ⟨by omega, by omega⟩ ?_; conv => whnf)
      | ((with_reducible refine IdxV.nat (by omega) ?_); conv => whnf)
      | ((with_reducible refine SameW.mk rfl ?_); conv => whnf)
      | (refine LoadV.mem (i := 0) (by assumption) rfl rfl ?_; conv => whnf)
      | (refine LoadV.mem (i := 1) (by assumption) rfl rfl ?_; conv => whnf)
      | (refine LoadV.mem (i := 2) (by assumption) rfl rfl ?_; conv => whnf)
      | ((with_reducible refine Tst.beqT ?_))
      | ((with_reducible refine Tst.beqF ?_))
      | (refine Tst.yes rfl ?_; conv => whnf)
      | (refine Tst.no rfl ?_; conv => whnf)))
    refine LoadV.cell0 hcl ?_
    (conv => whnf)
    (repeat' (first
      | (refine Obl.mk ⟨by omega, by omega⟩ ?_; conv => whnf)
      | (refine Obl.mk ⟨by omega, by omega, ⟨by omega, by omega⟩⟩ ?_; conv => whnf)
      | ((with_reducible refine Tst.tt ?_); conv => whnf)
      | ((with_reducible refine Tst.ff ?_); conv => whnf)
      | ((with_reducible refine Tst.dec (fun _ => ?_) (fun _ => ?_)) <;> first | (exfalso; omega) | (conv => whnf))
      | ((with_reducible refine Tst.not ?_))
      | (refine Wit.conv ⟨by omega, by omega⟩ ?_; conv => whnf)
      | ((with_reducible refine IdxV.nat (by omega) ?_); conv => whnf)
      | ((with_reducible refine SameW.mk rfl ?_); conv => whnf)
      | (refine LoadV.mem (i := 0) (by assumption) rfl rfl ?_; conv => whnf)
      | (refine LoadV.mem (i := 1) (by assumption) rfl rfl ?_; conv => whnf)
      | (refine LoadV.mem (i := 2) (by assumption) rfl rfl ?_; conv => whnf)
      | ((with_reducible refine Tst.beqT ?_))
      | ((with_reducible refine Tst.beqF ?_))
      | (refine Tst.yes rfl ?_; conv => whnf)
      | (refine Tst.no rfl ?_; conv => whnf)))
    · have : ¬ (lo ≤ x.size ∧ x.size ≤ hi) := fun e => by simp only [List.getElem_cons_zero] at *; omega
      exact ⟨by rw [moreB, decide_eq_false this]; rfl, h⟩
    · refine h.ldr ?_
      intro A c hS hc
      (conv => whnf)
      (repeat' (first
      | (refine Obl.mk ⟨by omega, by omega⟩ ?_; conv => whnf)
      | (refine Obl.mk ⟨by omega, by omega, ⟨by omega, by omega⟩⟩ ?_; conv => whnf)
      | ((with_reducible refine Tst.tt ?_); conv => whnf)
      | ((with_reducible refine Tst.ff ?_); conv => whnf)
      | ((with_reducible refine Tst.dec (fun _ => ?_) (fun _ => ?_)) <;> first | (exfalso; omega) | (conv => whnf))
      | ((with_reducible refine Tst.not ?_))
      | (refine Wit.conv ⟨by omega, by omega⟩ ?_; conv => whnf)
      | ((with_reducible refine IdxV.nat (by omega) ?_); conv => whnf)
      | ((with_reducible refine SameW.mk rfl ?_); conv => whnf)
      | (refine LoadV.mem (i := 0) (by assumption) rfl rfl ?_; conv => whnf)
      | (refine LoadV.mem (i := 1) (by assumption) rfl rfl ?_; conv => whnf)
      | (refine LoadV.mem (i := 2) (by assumption) rfl rfl ?_; conv => whnf)
      | ((with_reducible refine Tst.beqT ?_))
      | ((with_reducible refine Tst.beqF ?_))
      | (refine Tst.yes rfl ?_; conv => whnf)
      | (refine Tst.no rfl ?_; conv => whnf)))
      refine ElemV.sl hS rfl 0 rfl (by simp) ?_
      intro b off hcl
      (conv => whnf)
      (repeat' (first
      | (refine Obl.mk ⟨by omega, by omega⟩ ?_; conv => whnf)
      | (refine Obl.mk ⟨by omega, by omega, ⟨by omega, by omega⟩⟩ ?_; conv => whnf)
      | ((with_reducible refine Tst.tt ?_); conv => whnf)
      | ((with_reducible refine Tst.ff ?_); conv => whnf)
      | ((with_reducible refine Tst.dec (fun _ => ?_) (fun _ => ?_)) <;> first | (exfalso; omega) | (conv => whnf))
      | ((with_reducible refine Tst.not ?_))
      | (refine Wit.conv ⟨by omega, by omega⟩ ?_; conv => whnf)
      | ((with_reducible refine IdxV.nat (by omega) ?_); conv => whnf)
      | ((with_reducible refine SameW.mk rfl ?_); conv => whnf)
      | (refine LoadV.mem (i := 0) (by assumption) rfl rfl ?_; conv => whnf)
      | (refine LoadV.mem (i := 1) (by assumption) rfl rfl ?_; conv => whnf)
      | (refine LoadV.mem (i := 2) (by assumption) rfl rfl ?_; conv => whnf)
      | ((with_reducible refine Tst.beqT ?_))
      | ((with_reducible refine Tst.beqF ?_))
      | (refine Tst.yes rfl ?_; conv => whnf)
      | (refine Tst.no rfl ?_; conv => whnf)))
      refine LoadV.cell0 hcl ?_
      (conv => whnf)
      (repeat' (first
      | (refine Obl.mk ⟨by omega, by omega⟩ ?_; conv => whnf)
      | (refine Obl.mk ⟨by omega, by omega, ⟨by omega, by omega⟩⟩ ?_; conv => whnf)
      | ((with_reducible refine Tst.tt ?_); conv => whnf)
      | ((with_reducible refine Tst.ff ?_); conv => whnf)
      | ((with_reducible refine Tst.dec (fun _ => ?_) (fun _ => ?_)) <;> first | (exfalso; omega) | (conv => whnf))
      | ((with_reducible refine Tst.not ?_))
      | (refine Wit.conv ⟨by omega, by omega⟩ ?_; conv => whnf)
      | ((with_reducible refine IdxV.nat (by omega) ?_); conv => whnf)
      | ((with_reducible refine SameW.mk rfl ?_); conv => whnf)
      | (refine LoadV.mem (i := 0) (by assumption) rfl rfl ?_; conv => whnf)
      | (refine LoadV.mem (i := 1) (by assumption) rfl rfl ?_; conv => whnf)
      | (refine LoadV.mem (i := 2) (by assumption) rfl rfl ?_; conv => whnf)
      | ((with_reducible refine Tst.beqT ?_))
      | ((with_reducible refine Tst.beqF ?_))
      | (refine Tst.yes rfl ?_; conv => whnf)
      | (refine Tst.no rfl ?_; conv => whnf)))
      · have : ¬ (lo ≤ x.size ∧ x.size ≤ hi) := fun e => by simp only [List.getElem_cons_zero] at *; omega
        exact ⟨by rw [moreB, decide_eq_false this]; rfl, h⟩
      · have hin : lo ≤ x.size ∧ x.size ≤ hi := by simp only [List.getElem_cons_zero] at *; omega
        have em : moreB lo hi dig (x :: xs) = bif dig then digA x else letA x := by rw [moreB, decide_eq_true hin, Bool.true_and]
        rw [em]
        cases dig
        all_goals
          (conv => whnf)
          (repeat' (first
      | (refine Obl.mk ⟨by omega, by omega⟩ ?_; conv => whnf)
      | (refine Obl.mk ⟨by omega, by omega, ⟨by omega, by omega⟩⟩ ?_; conv => whnf)
      | ((with_reducible refine Tst.tt ?_); conv => whnf)
      | ((with_reducible refine Tst.ff ?_); conv => whnf)
      | ((with_reducible refine Tst.dec (fun _ => ?_) (fun _ => ?_)) <;> first | (exfalso; omega) | (conv => whnf))
      | ((with_reducible refine Tst.not ?_))
      | (refine Wit.conv ⟨by omega, by omega⟩ ?_; conv => whnf)
      | ((with_reducible refine IdxV.nat (by omega) ?_); conv => whnf)
      | ((with_reducible refine SameW.mk rfl ?_); conv => whnf)
      | (refine LoadV.mem (i := 0) (by assumption) rfl rfl ?_; conv => whnf)
      | (refine LoadV.mem (i := 1) (by assumption) rfl rfl ?_; conv => whnf)
      | (refine LoadV.mem (i := 2) (by assumption) rfl rfl ?_; conv => whnf)
      | ((with_reducible refine Tst.beqT ?_))
      | ((with_reducible refine Tst.beqF ?_))
      | (refine Tst.yes rfl ?_; conv => whnf)
      | (refine Tst.no rfl ?_; conv => whnf)))
          refine h.ldr ?_
          intro A c hS hc
          (conv => whnf)
          refine ElemV.sl hS rfl 0 rfl (by simp) ?_
          intro b off hcl
          (conv => whnf)
          refine LoadV.cell0 hcl ?_
          (conv => whnf)
        · refine CallV.of (letters_any x (by omega) w) ?_
          rintro v w' ⟨rfl, rfl⟩
          (conv => whnf)
          exact ⟨rfl, h⟩
        · refine CallV.of (numerals_any x (by omega) w) ?_
          rintro v w' ⟨rfl, rfl⟩
          (conv => whnf)
          exact ⟨rfl, h⟩
end Go.Proofs.YtajgbepghniciaaGreatDoor
namespace Go.Proofs.YtajgbepghniciaaGreatDoor
open Go.RowKit V
set_option maxRecDepth 100000

theorem moreB_let (lo hi : Nat) (x : ByteArray) (xs : List ByteArray) : moreB lo hi false (x :: xs) = madeB x lo hi true := by
  have : letA x = x.data.toList.all (alnB true) := by
    unfold letA
    congr 1
    funext c
    simp [alnB]
  rw [moreB, madeB, cond_false, this, Bool.and_comm]
theorem language_rq {w0 w : World} {O : List Nat} {rb tb : Nat} {rest : List ByteArray} {a0 : ByteArray} {vs es : List ByteArray} (h : RQ w0 w O rb tb rest a0 vs es []) :
    Gv Tryz.prog 269 [.pointer (some ⟨rb, 0, none⟩), .pointer (some ⟨tb, 0, none⟩)] w fun v w' => (langR rest = none ∧ v = .bool false ∧ Ext w0 w') ∨
      ∃ rest' b0, langR rest = some rest' ∧ v = .bool true ∧ 2 ≤ b0.size ∧ RQ w0 w' O rb tb rest' b0 vs es [] := by
  refine gv (by kernel_rfl) Tryz.func269 rfl Tryz.ntmps269 rfl ?_; conv => whnf
  refine CallV.of (more_rq 2 3 false h) ?_
  rintro v w1 ⟨rfl, h1⟩
  (conv => whnf)
  cases q1 : moreB 2 3 false rest
  · (conv => whnf)
    (repeat' (first
      | (refine Obl.mk ⟨by omega, by omega⟩ ?_; conv => whnf)
      | (refine Obl.mk ⟨by omega, by omega, ⟨by omega, by omega⟩⟩ ?_; conv => whnf)
      | ((with_reducible refine Tst.tt ?_); conv => whnf)
      | ((with_reducible refine Tst.ff ?_); conv => whnf)
      | ((with_reducible refine Tst.dec (fun _ => ?_) (fun _ => ?_)) <;> first | (exfalso; omega) | (conv => whnf))
      | ((with_reducible refine Tst.not ?_))
      | (refine Wit.conv ⟨by omega, by omega⟩ ?_; conv => whnf)
      | ((with_reducible refine IdxV.nat (by omega) ?_); conv => whnf)
      | ((with_reducible refine SameW.mk rfl ?_); conv => whnf)
      | (refine LoadV.mem (i := 0) (by assumption) rfl rfl ?_; conv => whnf)
      | (refine LoadV.mem (i := 1) (by assumption) rfl rfl ?_; conv => whnf)
      | (refine LoadV.mem (i := 2) (by assumption) rfl rfl ?_; conv => whnf)
      | ((with_reducible refine Tst.beqT ?_))
      | ((with_reducible refine Tst.beqF ?_))
      | (refine Tst.yes rfl ?_; conv => whnf)
      | (refine Tst.no rfl ?_; conv => whnf)))
    refine CallV.of (more_rq 4 8 false h1) ?_
    rintro v w2 ⟨rfl, h2⟩
    (conv => whnf)
    cases q2 : moreB 4 8 false rest
    · (conv => whnf)
      (repeat' (first
      | (refine Obl.mk ⟨by omega, by omega⟩ ?_; conv => whnf)
      | (refine Obl.mk ⟨by omega, by omega, ⟨by omega, by omega⟩⟩ ?_; conv => whnf)
      | ((with_reducible refine Tst.tt ?_); conv => whnf)
      | ((with_reducible refine Tst.ff ?_); conv => whnf)
      | ((with_reducible refine Tst.dec (fun _ => ?_) (fun _ => ?_)) <;> first | (exfalso; omega) | (conv => whnf))
      | ((with_reducible refine Tst.not ?_))
      | (refine Wit.conv ⟨by omega, by omega⟩ ?_; conv => whnf)
      | ((with_reducible refine IdxV.nat (by omega) ?_); conv => whnf)
      | ((with_reducible refine SameW.mk rfl ?_); conv => whnf)
      | (refine LoadV.mem (i := 0) (by assumption) rfl rfl ?_; conv => whnf)
      | (refine LoadV.mem (i := 1) (by assumption) rfl rfl ?_; conv => whnf)
      | (refine LoadV.mem (i := 2) (by assumption) rfl rfl ?_; conv => whnf)
      | ((with_reducible refine Tst.beqT ?_))
      | ((with_reducible refine Tst.beqF ?_))
      | (refine Tst.yes rfl ?_; conv => whnf)
      | (refine Tst.no rfl ?_; conv => whnf)))
      refine .inl ⟨?_, rfl, h2.ext⟩
      cases rest with
      | nil => rfl
      | cons x xs =>
        rw [moreB_let] at q1 q2
        rw [langR, if_neg]
        intro hm
        simp [madeB] at hm q1 q2
        obtain ⟨ha, hb⟩ := hm
        have := q1 ha
        have := q2 ha
        omega
    · obtain ⟨x, xs, rfl⟩ : ∃ x xs, rest = x :: xs := by
        cases rest with
        | nil => cases q2
        | cons x xs => exact ⟨x, xs, rfl⟩
      rw [moreB_let] at q2
      simp [madeB] at q2
      (conv => whnf)
      (repeat' (first
      | (refine Obl.mk ⟨by omega, by omega⟩ ?_; conv => whnf)
      | (refine Obl.mk ⟨by omega, by omega, ⟨by omega, by omega⟩⟩ ?_; conv => whnf)
      | ((with_reducible refine Tst.tt ?_); conv => whnf)
      | ((with_reducible refine Tst.ff ?_); conv => whnf)
      | ((with_reducible refine Tst.dec (fun _ => ?_) (fun _ => ?_)) <;> first | (exfalso; omega) | (conv => whnf))
      | ((with_reducible refine Tst.not ?_))
      | (refine Wit.conv ⟨by omega, by omega⟩ ?_; conv => whnf)
      | ((with_reducible refine IdxV.nat (by omega) ?_); conv => whnf)
      | ((with_reducible refine SameW.mk rfl ?_); conv => whnf)
      | (refine LoadV.mem (i := 0) (by assumption) rfl rfl ?_; conv => whnf)
      | (refine LoadV.mem (i := 1) (by assumption) rfl rfl ?_; conv => whnf)
      | (refine LoadV.mem (i := 2) (by assumption) rfl rfl ?_; conv => whnf)
      | ((with_reducible refine Tst.beqT ?_))
      | ((with_reducible refine Tst.beqF ?_))
      | (refine Tst.yes rfl ?_; conv => whnf)
      | (refine Tst.no rfl ?_; conv => whnf)))
      refine CallV.of (refNext_rq h2) ?_
      rintro v w3 ⟨rfl, h3⟩
      (conv => whnf)
      refine h3.st0 x ?_
      intro w4 h4
      (conv => whnf)
      refine .inr ⟨xs, x, ?_, rfl, by omega, h4⟩
      rw [langR, if_pos (by simp [madeB]; exact ⟨q2.1, by omega, by omega⟩), if_pos (by omega)]
  · obtain ⟨x, xs, rfl⟩ : ∃ x xs, rest = x :: xs := by
      cases rest with
      | nil => cases q1
      | cons x xs => exact ⟨x, xs, rfl⟩
    rw [moreB_let] at q1
    simp [madeB] at q1
    have hL : langR (x :: xs) = some (drop3 3 xs) := by rw [langR, if_pos (by simp [madeB]; exact ⟨q1.1, by omega, by omega⟩), if_neg (by omega)]
    rw [hL]
    (conv => whnf)
    (repeat' (first
      | (refine Obl.mk ⟨by omega, by omega⟩ ?_; conv => whnf)
      | (refine Obl.mk ⟨by omega, by omega, ⟨by omega, by omega⟩⟩ ?_; conv => whnf)
      | ((with_reducible refine Tst.tt ?_); conv => whnf)
      | ((with_reducible refine Tst.ff ?_); conv => whnf)
      | ((with_reducible refine Tst.dec (fun _ => ?_) (fun _ => ?_)) <;> first | (exfalso; omega) | (conv => whnf))
      | ((with_reducible refine Tst.not ?_))
      | (refine Wit.conv ⟨by omega, by omega⟩ ?_; conv => whnf)
      | ((with_reducible refine IdxV.nat (by omega) ?_); conv => whnf)
      | ((with_reducible refine SameW.mk rfl ?_); conv => whnf)
      | (refine LoadV.mem (i := 0) (by assumption) rfl rfl ?_; conv => whnf)
      | (refine LoadV.mem (i := 1) (by assumption) rfl rfl ?_; conv => whnf)
      | (refine LoadV.mem (i := 2) (by assumption) rfl rfl ?_; conv => whnf)
      | ((with_reducible refine Tst.beqT ?_))
      | ((with_reducible refine Tst.beqF ?_))
      | (refine Tst.yes rfl ?_; conv => whnf)
      | (refine Tst.no rfl ?_; conv => whnf)))
    refine CallV.of (refNext_rq h1) ?_
    rintro v w3 ⟨rfl, h3⟩
    (conv => whnf)
    refine h3.st0 x ?_
    intro w4 h4
    (conv => whnf)
    refine loopV (fun y : List ByteArray × List ByteArray × Option Addr × Nat => [(0, .pointer (some ⟨rb, 0, none⟩)), (1, .pointer (some ⟨tb, 0, none⟩)), (5, .slice y.2.2.1 y.1.length y.2.2.2)])
      (fun y w5 => RQ w0 w5 O rb tb y.2.1 x vs es [(y.1.map Value.string, .slice y.2.2.1 y.1.length y.2.2.2)] ∧ y.1.length ≤ 3 ∧ (∀ z ∈ y.1, z.size ≤ 3) ∧ drop3 (3 - y.1.length) y.2.1 = drop3 3 xs)
      (fun y => 3 - y.1.length) ([], xs, none, 0) ⟨rfl, rfl, rfl, trivial⟩ ⟨h4.nilrow, by simp, by simp, rfl⟩ ?_
    rintro ⟨l, r5, B, d⟩ w5 ρ' ⟨h5, hl, hz, e5⟩
    simp only at h5 hl hz e5
    dsimp only
    (conv => whnf)
    (repeat' (first
      | (refine Obl.mk ⟨by omega, by omega⟩ ?_; conv => whnf)
      | (refine Obl.mk ⟨by omega, by omega, ⟨by omega, by omega⟩⟩ ?_; conv => whnf)
      | ((with_reducible refine Tst.tt ?_); conv => whnf)
      | ((with_reducible refine Tst.ff ?_); conv => whnf)
      | ((with_reducible refine Tst.dec (fun _ => ?_) (fun _ => ?_)) <;> first | (exfalso; omega) | (conv => whnf))
      | ((with_reducible refine Tst.not ?_))
      | (refine Wit.conv ⟨by omega, by omega⟩ ?_; conv => whnf)
      | ((with_reducible refine IdxV.nat (by omega) ?_); conv => whnf)
      | ((with_reducible refine SameW.mk rfl ?_); conv => whnf)
      | (refine LoadV.mem (i := 0) (by assumption) rfl rfl ?_; conv => whnf)
      | (refine LoadV.mem (i := 1) (by assumption) rfl rfl ?_; conv => whnf)
      | (refine LoadV.mem (i := 2) (by assumption) rfl rfl ?_; conv => whnf)
      | ((with_reducible refine Tst.beqT ?_))
      | ((with_reducible refine Tst.beqF ?_))
      | (refine Tst.yes rfl ?_; conv => whnf)
      | (refine Tst.no rfl ?_; conv => whnf)))
    · have hl3 : l.length < 3 := by omega
      obtain ⟨m, hm⟩ : ∃ m, 3 - l.length = m + 1 := ⟨2 - l.length, by omega⟩
      rw [hm] at e5
      refine CallV.of (more_rq 3 3 false h5) ?_
      rintro v w6 ⟨rfl, h6⟩
      cases q3 : moreB 3 3 false r5
      · have e6 : drop3 3 xs = r5 := by
          cases r5 with
          | nil => rw [← e5]; rfl
          | cons y ys =>
            rw [moreB_let] at q3
            rw [← e5, drop3, if_neg (by rw [q3]; simp)]
        rw [e6]
        (conv => whnf)
        (repeat' (first
      | (refine Obl.mk ⟨by omega, by omega⟩ ?_; conv => whnf)
      | (refine Obl.mk ⟨by omega, by omega, ⟨by omega, by omega⟩⟩ ?_; conv => whnf)
      | ((with_reducible refine Tst.tt ?_); conv => whnf)
      | ((with_reducible refine Tst.ff ?_); conv => whnf)
      | ((with_reducible refine Tst.dec (fun _ => ?_) (fun _ => ?_)) <;> first | (exfalso; omega) | (conv => whnf))
      | ((with_reducible refine Tst.not ?_))
      | (refine Wit.conv ⟨by omega, by omega⟩ ?_; conv => whnf)
      | ((with_reducible refine IdxV.nat (by omega) ?_); conv => whnf)
      | ((with_reducible refine SameW.mk rfl ?_); conv => whnf)
      | (refine LoadV.mem (i := 0) (by assumption) rfl rfl ?_; conv => whnf)
      | (refine LoadV.mem (i := 1) (by assumption) rfl rfl ?_; conv => whnf)
      | (refine LoadV.mem (i := 2) (by assumption) rfl rfl ?_; conv => whnf)
      | ((with_reducible refine Tst.beqT ?_))
      | ((with_reducible refine Tst.beqF ?_))
      | (refine Tst.yes rfl ?_; conv => whnf)
      | (refine Tst.no rfl ?_; conv => whnf)))
        refine CallV.of (joined_any l B d w6 h6.rowL (fun z hz' => by have := hz z hz'; omega) (by omega)) ?_
        rintro v w7 ⟨rfl, he7⟩
        have h7 := h6.call he7
        (conv => whnf)
        refine h7.st (by simp) _ ?_
        intro w8 h8
        (conv => whnf)
        exact .inr ⟨r5, x, rfl, rfl, by omega, h8.cut⟩
      · obtain ⟨y, ys, rfl⟩ : ∃ y ys, r5 = y :: ys := by
          cases r5 with
          | nil => cases q3
          | cons y ys => exact ⟨y, ys, rfl⟩
        rw [moreB_let] at q3
        rw [drop3, if_pos q3] at e5
        simp [madeB] at q3
        (conv => whnf)
        (repeat' (first
      | (refine Obl.mk ⟨by omega, by omega⟩ ?_; conv => whnf)
      | (refine Obl.mk ⟨by omega, by omega, ⟨by omega, by omega⟩⟩ ?_; conv => whnf)
      | ((with_reducible refine Tst.tt ?_); conv => whnf)
      | ((with_reducible refine Tst.ff ?_); conv => whnf)
      | ((with_reducible refine Tst.dec (fun _ => ?_) (fun _ => ?_)) <;> first | (exfalso; omega) | (conv => whnf))
      | ((with_reducible refine Tst.not ?_))
      | (refine Wit.conv ⟨by omega, by omega⟩ ?_; conv => whnf)
      | ((with_reducible refine IdxV.nat (by omega) ?_); conv => whnf)
      | ((with_reducible refine SameW.mk rfl ?_); conv => whnf)
      | (refine LoadV.mem (i := 0) (by assumption) rfl rfl ?_; conv => whnf)
      | (refine LoadV.mem (i := 1) (by assumption) rfl rfl ?_; conv => whnf)
      | (refine LoadV.mem (i := 2) (by assumption) rfl rfl ?_; conv => whnf)
      | ((with_reducible refine Tst.beqT ?_))
      | ((with_reducible refine Tst.beqF ?_))
      | (refine Tst.yes rfl ?_; conv => whnf)
      | (refine Tst.no rfl ?_; conv => whnf)))
        refine CallV.of (refNext_rq h6) ?_
        rintro v w7 ⟨rfl, h7⟩
        (conv => whnf)
        refine NewV.rq h7 ?_
        intro nb w8 h8 hnb
        (conv => whnf)
        refine h8.appL hnb (by omega) ?_
        intro B' d' w9 h9
        (conv => whnf)
        (repeat' (first
      | (refine Obl.mk ⟨by omega, by omega⟩ ?_; conv => whnf)
      | (refine Obl.mk ⟨by omega, by omega, ⟨by omega, by omega⟩⟩ ?_; conv => whnf)
      | ((with_reducible refine Tst.tt ?_); conv => whnf)
      | ((with_reducible refine Tst.ff ?_); conv => whnf)
      | ((with_reducible refine Tst.dec (fun _ => ?_) (fun _ => ?_)) <;> first | (exfalso; omega) | (conv => whnf))
      | ((with_reducible refine Tst.not ?_))
      | (refine Wit.conv ⟨by omega, by omega⟩ ?_; conv => whnf)
      | ((with_reducible refine IdxV.nat (by omega) ?_); conv => whnf)
      | ((with_reducible refine SameW.mk rfl ?_); conv => whnf)
      | (refine LoadV.mem (i := 0) (by assumption) rfl rfl ?_; conv => whnf)
      | (refine LoadV.mem (i := 1) (by assumption) rfl rfl ?_; conv => whnf)
      | (refine LoadV.mem (i := 2) (by assumption) rfl rfl ?_; conv => whnf)
      | ((with_reducible refine Tst.beqT ?_))
      | ((with_reducible refine Tst.beqF ?_))
      | (refine Tst.yes rfl ?_; conv => whnf)
      | (refine Tst.no rfl ?_; conv => whnf)))
        refine ⟨(l ++ [y], ys, B', d'), ⟨rfl, rfl, by simp only [List.length_append]; rfl, trivial⟩, ⟨h9, by simp; omega, ?_, ?_⟩, by simp; omega⟩
        · intro z hz'
          rcases List.mem_append.1 hz' with hz' | hz'
          · exact hz z hz'
          · obtain rfl := List.mem_singleton.1 hz'; omega
        · simp only [List.length_append, List.length_singleton]
          rw [show 3 - (l.length + 1) = m by omega]
          exact e5
    · have hl3 : l.length = 3 := by omega
      rw [hl3] at e5
      have e6 : drop3 3 xs = r5 := by rw [← e5]; rfl
      rw [e6]
      refine CallV.of (joined_any l B d w5 h5.rowL (fun z hz' => by have := hz z hz'; omega) (by omega)) ?_
      rintro v w7 ⟨rfl, he7⟩
      have h7 := h5.call he7
      (conv => whnf)
      refine h7.st (by simp) _ ?_
      intro w8 h8
      (conv => whnf)
      exact .inr ⟨r5, x, rfl, rfl, by omega, h8.cut⟩
theorem private_rq {w0 w : World} {O : List Nat} {rb tb : Nat} {rest : List ByteArray} {a0 : ByteArray} {vs es : List ByteArray} (h : RQ w0 w O rb tb rest a0 vs es []) (hn : rest.length ≤ 1000000) :
    Gv Tryz.prog 275 [.pointer (some ⟨rb, 0, none⟩), .pointer (some ⟨tb, 0, none⟩)] w fun v w' => v = .bool (decide (rest.tail ≠ []) && rest.tail.all privQ) ∧ RQ w0 w' O rb tb rest a0 vs es [] := by
  refine gv (by kernel_rfl) Tryz.func275 rfl Tryz.ntmps275 rfl ?_; conv => whnf
  refine h.ldr ?_
  intro A c hS hc
  (conv => whnf)
  refine CallV.of (joined_any rest A c w hS h.small hn) ?_
  rintro v w1 ⟨rfl, he1⟩
  have h1 := h.call he1
  (conv => whnf)
  refine h1.st (by simp) _ ?_
  intro w2 h2
  (conv => whnf)
  refine h2.ldr ?_
  intro A2 c2 hS2 hc2
  (conv => whnf)
  (repeat' (first
      | (refine Obl.mk ⟨by omega, by omega⟩ ?_; conv => whnf)
      | (refine Obl.mk ⟨by omega, by omega, ⟨by omega, by omega⟩⟩ ?_; conv => whnf)
      | ((with_reducible refine Tst.tt ?_); conv => whnf)
      | ((with_reducible refine Tst.ff ?_); conv => whnf)
      | ((with_reducible refine Tst.dec (fun _ => ?_) (fun _ => ?_)) <;> first | (exfalso; omega) | (conv => whnf))
      | ((with_reducible refine Tst.not ?_))
      | (refine Wit.conv ⟨by omega, by omega⟩ ?_; conv => whnf)
      | ((with_reducible refine IdxV.nat (by omega) ?_); conv => whnf)
      | ((with_reducible refine SameW.mk rfl ?_); conv => whnf)
      | (refine LoadV.mem (i := 0) (by assumption) rfl rfl ?_; conv => whnf)
      | (refine LoadV.mem (i := 1) (by assumption) rfl rfl ?_; conv => whnf)
      | (refine LoadV.mem (i := 2) (by assumption) rfl rfl ?_; conv => whnf)
      | ((with_reducible refine Tst.beqT ?_))
      | ((with_reducible refine Tst.beqF ?_))
      | (refine Tst.yes rfl ?_; conv => whnf)
      | (refine Tst.no rfl ?_; conv => whnf)))
  · have : rest.tail = [] := List.length_eq_zero_iff.1 (by rw [List.length_tail]; omega)
    rw [this]
    exact ⟨rfl, h2⟩
  · have ht : rest.tail ≠ [] := fun e => by have := congrArg List.length e; rw [List.length_tail] at this; simp at this; omega
    rw [decide_eq_true ht, Bool.true_and]
    refine loopV (fun i : Nat => [(0, .pointer (some ⟨rb, 0, none⟩)), (1, .pointer (some ⟨tb, 0, none⟩)), (5, .int .i64 (i + 1 : Nat))])
      (fun i w3 => RQ w0 w3 O rb tb rest a0 vs es [] ∧ i ≤ rest.tail.length ∧ (rest.tail.take i).all privQ = true)
      (fun i => rest.tail.length - i) 0 ⟨rfl, rfl, rfl, trivial⟩ ⟨h2, by simp, rfl⟩ ?_
    rintro i w3 ρ' ⟨h3, hi, ha⟩
    rw [List.length_tail] at hi ⊢
    (conv => whnf)
    refine h3.ldr ?_
    intro A3 c3 hS3 hc3
    (conv => whnf)
    (repeat' (first
      | (refine Obl.mk ⟨by omega, by omega⟩ ?_; conv => whnf)
      | (refine Obl.mk ⟨by omega, by omega, ⟨by omega, by omega⟩⟩ ?_; conv => whnf)
      | ((with_reducible refine Tst.tt ?_); conv => whnf)
      | ((with_reducible refine Tst.ff ?_); conv => whnf)
      | ((with_reducible refine Tst.dec (fun _ => ?_) (fun _ => ?_)) <;> first | (exfalso; omega) | (conv => whnf))
      | ((with_reducible refine Tst.not ?_))
      | (refine Wit.conv ⟨by omega, by omega⟩ ?_; conv => whnf)
      | ((with_reducible refine IdxV.nat (by omega) ?_); conv => whnf)
      | ((with_reducible refine SameW.mk rfl ?_); conv => whnf)
      | (refine LoadV.mem (i := 0) (by assumption) rfl rfl ?_; conv => whnf)
      | (refine LoadV.mem (i := 1) (by assumption) rfl rfl ?_; conv => whnf)
      | (refine LoadV.mem (i := 2) (by assumption) rfl rfl ?_; conv => whnf)
      | ((with_reducible refine Tst.beqT ?_))
      | ((with_reducible refine Tst.beqF ?_))
      | (refine Tst.yes rfl ?_; conv => whnf)
      | (refine Tst.no rfl ?_; conv => whnf)))
    · refine h3.ldr ?_
      intro A4 c4 hS4 hc4
      (conv => whnf)
      have hlt : i + 1 < rest.length := by omega
      have htl : i < rest.tail.length := by rw [List.length_tail]; omega
      have hx := h3.small _ (List.getElem_mem hlt)
      have eg : rest.tail[i] = rest[i + 1] := by rw [List.getElem_tail]
      refine ElemV.sl hS4 rfl (i + 1) rfl hlt ?_
      intro b off hcl
      (conv => whnf)
      refine LoadV.cell0 hcl ?_
      (conv => whnf)
      refine CallV.of (both_any _ 1 8 (by omega) w3) ?_
      rintro v w4 ⟨rfl, rfl⟩
      cases q : madeB rest[i + 1] 1 8 false
      · (conv => whnf)
        (repeat' (first
      | (refine Obl.mk ⟨by omega, by omega⟩ ?_; conv => whnf)
      | (refine Obl.mk ⟨by omega, by omega, ⟨by omega, by omega⟩⟩ ?_; conv => whnf)
      | ((with_reducible refine Tst.tt ?_); conv => whnf)
      | ((with_reducible refine Tst.ff ?_); conv => whnf)
      | ((with_reducible refine Tst.dec (fun _ => ?_) (fun _ => ?_)) <;> first | (exfalso; omega) | (conv => whnf))
      | ((with_reducible refine Tst.not ?_))
      | (refine Wit.conv ⟨by omega, by omega⟩ ?_; conv => whnf)
      | ((with_reducible refine IdxV.nat (by omega) ?_); conv => whnf)
      | ((with_reducible refine SameW.mk rfl ?_); conv => whnf)
      | (refine LoadV.mem (i := 0) (by assumption) rfl rfl ?_; conv => whnf)
      | (refine LoadV.mem (i := 1) (by assumption) rfl rfl ?_; conv => whnf)
      | (refine LoadV.mem (i := 2) (by assumption) rfl rfl ?_; conv => whnf)
      | ((with_reducible refine Tst.beqT ?_))
      | ((with_reducible refine Tst.beqF ?_))
      | (refine Tst.yes rfl ?_; conv => whnf)
      | (refine Tst.no rfl ?_; conv => whnf)))
        refine ⟨?_, h3⟩
        have : rest.tail.all privQ = false := by
          rw [List.all_eq_false]
          exact ⟨_, List.getElem_mem htl, by rw [eg, privQ, q]; simp⟩
        rw [this]
      · (conv => whnf)
        (repeat' (first
      | (refine Obl.mk ⟨by omega, by omega⟩ ?_; conv => whnf)
      | (refine Obl.mk ⟨by omega, by omega, ⟨by omega, by omega⟩⟩ ?_; conv => whnf)
      | ((with_reducible refine Tst.tt ?_); conv => whnf)
      | ((with_reducible refine Tst.ff ?_); conv => whnf)
      | ((with_reducible refine Tst.dec (fun _ => ?_) (fun _ => ?_)) <;> first | (exfalso; omega) | (conv => whnf))
      | ((with_reducible refine Tst.not ?_))
      | (refine Wit.conv ⟨by omega, by omega⟩ ?_; conv => whnf)
      | ((with_reducible refine IdxV.nat (by omega) ?_); conv => whnf)
      | ((with_reducible refine SameW.mk rfl ?_); conv => whnf)
      | (refine LoadV.mem (i := 0) (by assumption) rfl rfl ?_; conv => whnf)
      | (refine LoadV.mem (i := 1) (by assumption) rfl rfl ?_; conv => whnf)
      | (refine LoadV.mem (i := 2) (by assumption) rfl rfl ?_; conv => whnf)
      | ((with_reducible refine Tst.beqT ?_))
      | ((with_reducible refine Tst.beqF ?_))
      | (refine Tst.yes rfl ?_; conv => whnf)
      | (refine Tst.no rfl ?_; conv => whnf)))
        refine ⟨i + 1, ⟨rfl, rfl, rfl, trivial⟩, ⟨h3, by first | omega | (rw [List.length_tail]; omega), ?_⟩, by first | omega | (rw [List.length_tail]; omega)⟩
        rw [List.take_succ_eq_append_getElem htl, List.all_append, ha, eg]
        simp [privQ, q]
    · rw [List.take_of_length_le (by rw [List.length_tail]; omega)] at ha
      rw [ha]
      exact ⟨rfl, h3⟩
end Go.Proofs.YtajgbepghniciaaGreatDoor
