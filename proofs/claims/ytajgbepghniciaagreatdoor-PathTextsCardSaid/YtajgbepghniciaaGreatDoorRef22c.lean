/- The document's paths: Text. -/
import Derived.Test.YtajgbepghniciaaGreatDoorRef22b
namespace Go.Proofs.YtajgbepghniciaaGreatDoor
open Go.RowKit V
set_option maxRecDepth 100000

/-- each ahead of it a bar -/
def tailT (l : List ByteArray) : ByteArray := bs (Lib.joinTail [124] (l.map (·.data.toList)))
theorem bs_append (a b : List UInt8) : bs (a ++ b) = bs a ++ bs b := by
  apply ByteArray.ext
  simp [bs]
theorem bs_data (s : ByteArray) : bs s.data.toList = s := by
  apply ByteArray.ext
  simp [bs]
theorem tailT_snoc (l : List ByteArray) (x : ByteArray) : tailT (l ++ [x]) = tailT l ++ bs [124] ++ x := by
  have : Lib.joinTail [124] ((l ++ [x]).map (·.data.toList)) = Lib.joinTail [124] (l.map (·.data.toList)) ++ [124] ++ x.data.toList := by
    simp [Lib.joinTail]
  rw [tailT, this, bs_append, bs_append, bs_data]; rfl
theorem tailT_size (l : List ByteArray) (M : Nat) (h : ∀ x ∈ l, x.size ≤ M) : (tailT l).size ≤ l.length * (M + 1) := by
  show (Lib.joinTail [124] (l.map (·.data.toList))).toArray.size ≤ _
  rw [List.size_toArray, Lib.joinTail_length, List.length_map]
  have : Lib.lens (l.map (·.data.toList)) ≤ l.length * M := by
    induction l with
    | nil => simp [Lib.lens]
    | cons y r ih =>
      have := ih (fun z hz => h z (List.mem_cons_of_mem _ hz))
      have h1 := h y (List.mem_cons_self ..)
      simp only [Lib.lens, List.map_cons, List.sum_cons, List.length_cons, Nat.succ_mul] at this ⊢
      have h2 : y.data.toList.length = y.size := by simp
      omega
  rw [Nat.mul_succ]
  show 1 * l.length + _ ≤ _
  omega
/-- behind the first bar -/
theorem tailT_cut (l : List ByteArray) (h : l ≠ []) : (tailT l).extract 1 (tailT l).size = joinT l [124] ∧ 1 ≤ (tailT l).size := by
  match l, h with
  | x :: r, _ =>
    have e : tailT (x :: r) = bs (124 :: Lib.join ((x :: r).map (·.data.toList)) [124]) := by
      rw [tailT, List.map_cons, Lib.join_cons]
      simp [Lib.joinTail]
    refine ⟨?_, ?_⟩
    · rw [e]
      apply ByteArray.ext
      rw [← Array.toList_inj, Lib.extract_data]
      show (List.drop 1 (124 :: Lib.join _ [124])).take ((124 :: Lib.join _ [124]).toArray.size - 1) = Lib.join _ [124]
      rw [List.drop_succ_cons, List.drop_zero, List.take_of_length_le (by simp)]
    · rw [e]
      show 1 ≤ (124 :: _).toArray.size
      simp
def refNotT (n : PN) : ByteArray := if (notL n.f n.v).length = 1 then joinT (notL n.f n.v) [124] else bs [40] ++ joinT (notL n.f n.v) [124] ++ bs [41]
theorem refNotT_eq (n : PN) : bs [33] ++ refNotT n = notT n := by
  unfold refNotT notT
  split
  · rename_i h
    match hL : notL n.f n.v, h with
    | [x], _ =>
      simp only [List.headD_cons, joinT, List.map_cons, List.map_nil, Lib.join_one, bs_data]
  · rw [← ByteArray.append_assoc, ← ByteArray.append_assoc]; rfl

theorem refNot_any (n : PN) (w : World) (hn : NodeOk w n) (h1 : ListedP n.f) (h2 : ListedP n.v) (hl : n.f.length + n.v.length ≤ 100000) (h0 : 0 < n.f.length + n.v.length) :
    Gv Tryz.prog 75 [.agg #[.int .i64 n.op, .string n.iri, .int .i64 n.a, .int .i64 n.b, .slice n.fA n.f.length n.fc, .slice n.vA n.v.length n.vc]] w fun v w' => v = .string (refNotT n) ∧ Ext w w' := by
  have hfl : n.f.length ≤ 100000 := by omega
  have hvl : n.v.length ≤ 100000 := by omega
  have hlen : (notL n.f n.v).length = n.f.length + n.v.length := by simp [notL]
  have fsz : ∀ s ∈ n.f, (angT s).size ≤ 65538 := fun s hs => by
    obtain ⟨i, hi, rfl⟩ := List.getElem_of_mem hs
    have := (iriE_ok (h1 i hi).1).1
    simp only [angT, bsz]; show 1 + _ + 1 ≤ _; omega
  have vsz : ∀ s ∈ n.v, (angT s).size ≤ 65538 := fun s hs => by
    obtain ⟨i, hi, rfl⟩ := List.getElem_of_mem hs
    have := (iriE_ok (h2 i hi).1).1
    simp only [angT, bsz]; show 1 + _ + 1 ≤ _; omega
  have nsz : ∀ x ∈ notL n.f n.v, x.size ≤ 65539 := fun x hx => by
    rcases List.mem_append.1 hx with hx | hx
    · obtain ⟨s, hs, rfl⟩ := List.mem_map.1 hx
      have := fsz s hs; omega
    · obtain ⟨s, hs, rfl⟩ := List.mem_map.1 hx
      have := vsz s hs
      simp only [bsz]; show 1 + _ ≤ _; omega
  refine gv (by kernel_rfl) Tryz.func75 rfl Tryz.ntmps75 rfl ?_; conv => whnf
  refine NewV.mem (Mem.nil w) ?_
  intro b w1 hm
  (conv => whnf)
  refine loopV (fun k : Nat => [(1, .pointer (some ⟨b, 0, none⟩)), (3, .string (tailT ((n.f.take k).map angT))), (4, .int .i64 k)])
    (fun k w2 => k ≤ n.f.length ∧ Mem w w2 [(b, Obj.cells (encN n).toArray 81 (0, 0))]) (fun k => n.f.length - k) 0 ⟨rfl, rfl, rfl, trivial⟩ ⟨by simp, hm⟩ ?_
  rintro k w2 ρ' ⟨hk, hm2⟩
  have hts := tailT_size ((n.f.take k).map angT) 65538 (fun x hx => by
    obtain ⟨s, hs, rfl⟩ := List.mem_map.1 hx
    exact fsz s (List.mem_of_mem_take hs))
  have hkl : ((n.f.take k).map angT).length = k := by simp; omega
  rw [hkl] at hts
  have hkm : k * 65539 ≤ 100000 * 65539 := Nat.mul_le_mul (by omega) (Nat.le_refl _)
  (conv => whnf)
  (repeat' (first
      | (refine Obl.mk ⟨by omega, by omega⟩ ?_; conv => whnf)
      | (refine Obl.mk ⟨by omega, by omega, ⟨by omega, by omega⟩⟩ ?_; conv => whnf)
      | ((with_reducible refine Tst.tt ?_); conv => whnf)
      | ((with_reducible refine Tst.ff ?_); conv => whnf)
      | ((with_reducible refine Tst.dec (fun _ => ?_) (fun _ => ?_)) <;> first | (exfalso; omega) | (conv => whnf))
      | ((with_reducible refine Tst.not ?_))
      | (refine Wit.conv ⟨by omega, by omega⟩ ?_; conv => whnf)
      | ((with_reducible refine IdxV.nat (by omega) ?_); conv => whnf)
      | ((with_reducible refine SameW.mk rfl ?_); conv => whnf)
      | (refine LoadV.mem (i := 0) (by assumption) rfl rfl ?_; conv => whnf)
      | (refine LoadV.mem (i := 1) (by assumption) rfl rfl ?_; conv => whnf)
      | (refine LoadV.mem (i := 2) (by assumption) rfl rfl ?_; conv => whnf)
      | ((with_reducible refine Tst.beqT ?_))
      | ((with_reducible refine Tst.beqF ?_))
      | (refine Tst.yes rfl ?_; conv => whnf)
      | (refine Tst.no rfl ?_; conv => whnf)))
  · have hlt : k < n.f.length := by omega
    refine ⟨by show (tailT _).size + 1 ≤ _; omega, ?_⟩
    (conv => whnf)
    (repeat' (first
      | (refine Obl.mk ⟨by omega, by omega⟩ ?_; conv => whnf)
      | (refine Obl.mk ⟨by omega, by omega, ⟨by omega, by omega⟩⟩ ?_; conv => whnf)
      | ((with_reducible refine Tst.tt ?_); conv => whnf)
      | ((with_reducible refine Tst.ff ?_); conv => whnf)
      | ((with_reducible refine Tst.dec (fun _ => ?_) (fun _ => ?_)) <;> first | (exfalso; omega) | (conv => whnf))
      | ((with_reducible refine Tst.not ?_))
      | (refine Wit.conv ⟨by omega, by omega⟩ ?_; conv => whnf)
      | ((with_reducible refine IdxV.nat (by omega) ?_); conv => whnf)
      | ((with_reducible refine SameW.mk rfl ?_); conv => whnf)
      | (refine LoadV.mem (i := 0) (by assumption) rfl rfl ?_; conv => whnf)
      | (refine LoadV.mem (i := 1) (by assumption) rfl rfl ?_; conv => whnf)
      | (refine LoadV.mem (i := 2) (by assumption) rfl rfl ?_; conv => whnf)
      | ((with_reducible refine Tst.beqT ?_))
      | ((with_reducible refine Tst.beqF ?_))
      | (refine Tst.yes rfl ?_; conv => whnf)
      | (refine Tst.no rfl ?_; conv => whnf)))
    refine ElemV.sl (hn.fA.ext hm2.ext) rfl k rfl (by omega) ?_
    intro eb off hc
    (conv => whnf)
    refine LoadV.cell0 hc ?_
    (conv => whnf)
    refine CallV.of (refIri_plain _ (h1 k hlt).1 _) ?_
    rintro v w3 ⟨rfl, he⟩
    have hfk := fsz _ (List.getElem_mem hlt)
    (conv => whnf)
    refine ⟨by show (tailT _ ++ bs [124]).size + (angT _).size ≤ _; rw [bsz]; show _ + 1 + _ ≤ _; omega, ?_⟩
    (conv => whnf)
    (repeat' (first
      | (refine Obl.mk ⟨by omega, by omega⟩ ?_; conv => whnf)
      | (refine Obl.mk ⟨by omega, by omega, ⟨by omega, by omega⟩⟩ ?_; conv => whnf)
      | ((with_reducible refine Tst.tt ?_); conv => whnf)
      | ((with_reducible refine Tst.ff ?_); conv => whnf)
      | ((with_reducible refine Tst.dec (fun _ => ?_) (fun _ => ?_)) <;> first | (exfalso; omega) | (conv => whnf))
      | ((with_reducible refine Tst.not ?_))
      | (refine Wit.conv ⟨by omega, by omega⟩ ?_; conv => whnf)
      | ((with_reducible refine IdxV.nat (by omega) ?_); conv => whnf)
      | ((with_reducible refine SameW.mk rfl ?_); conv => whnf)
      | (refine LoadV.mem (i := 0) (by assumption) rfl rfl ?_; conv => whnf)
      | (refine LoadV.mem (i := 1) (by assumption) rfl rfl ?_; conv => whnf)
      | (refine LoadV.mem (i := 2) (by assumption) rfl rfl ?_; conv => whnf)
      | ((with_reducible refine Tst.beqT ?_))
      | ((with_reducible refine Tst.beqF ?_))
      | (refine Tst.yes rfl ?_; conv => whnf)
      | (refine Tst.no rfl ?_; conv => whnf)))
    refine ⟨k + 1, ⟨rfl, ?_, rfl, trivial⟩, ⟨by omega, hm2.call he⟩, by omega⟩
    rw [List.take_succ_eq_append_getElem hlt, List.map_append, List.map_singleton, tailT_snoc]; rfl
  · obtain rfl : k = n.f.length := by omega
    rw [List.take_of_length_le (Nat.le_refl _)]
    refine loopV (fun k : Nat => [(1, .pointer (some ⟨b, 0, none⟩)), (3, .string (tailT (n.f.map angT ++ (n.v.take k).map fun s => bs [94] ++ angT s))), (5, .int .i64 k)])
      (fun k w2 => k ≤ n.v.length ∧ Mem w w2 [(b, Obj.cells (encN n).toArray 81 (0, 0))]) (fun k => n.v.length - k) 0 ⟨rfl, by simp; rfl, rfl, trivial⟩ ⟨by simp, hm2⟩ ?_
    rintro k w2 ρ' ⟨hk, hm2⟩
    have hts := tailT_size (n.f.map angT ++ (n.v.take k).map fun s => bs [94] ++ angT s) 65539 (fun x hx => nsz x (by
      rcases List.mem_append.1 hx with hx | hx
      · exact List.mem_append_left _ hx
      · obtain ⟨s, hs, rfl⟩ := List.mem_map.1 hx
        exact List.mem_append_right _ (List.mem_map.2 ⟨s, List.mem_of_mem_take hs, rfl⟩)))
    have hkl : (n.f.map angT ++ (n.v.take k).map fun s => bs [94] ++ angT s).length = n.f.length + k := by simp; omega
    rw [hkl] at hts
    have hkm : (n.f.length + k) * 65540 ≤ 100000 * 65540 := Nat.mul_le_mul (by omega) (Nat.le_refl _)
    (conv => whnf)
    (repeat' (first
      | (refine Obl.mk ⟨by omega, by omega⟩ ?_; conv => whnf)
      | (refine Obl.mk ⟨by omega, by omega, ⟨by omega, by omega⟩⟩ ?_; conv => whnf)
      | ((with_reducible refine Tst.tt ?_); conv => whnf)
      | ((with_reducible refine Tst.ff ?_); conv => whnf)
      | ((with_reducible refine Tst.dec (fun _ => ?_) (fun _ => ?_)) <;> first | (exfalso; omega) | (conv => whnf))
      | ((with_reducible refine Tst.not ?_))
      | (refine Wit.conv ⟨by omega, by omega⟩ ?_; conv => whnf)
      | ((with_reducible refine IdxV.nat (by omega) ?_); conv => whnf)
      | ((with_reducible refine SameW.mk rfl ?_); conv => whnf)
      | (refine LoadV.mem (i := 0) (by assumption) rfl rfl ?_; conv => whnf)
      | (refine LoadV.mem (i := 1) (by assumption) rfl rfl ?_; conv => whnf)
      | (refine LoadV.mem (i := 2) (by assumption) rfl rfl ?_; conv => whnf)
      | ((with_reducible refine Tst.beqT ?_))
      | ((with_reducible refine Tst.beqF ?_))
      | (refine Tst.yes rfl ?_; conv => whnf)
      | (refine Tst.no rfl ?_; conv => whnf)))
    · have hlt : k < n.v.length := by omega
      refine ⟨by show (tailT _).size + 2 ≤ _; omega, ?_⟩
      (conv => whnf)
      (repeat' (first
      | (refine Obl.mk ⟨by omega, by omega⟩ ?_; conv => whnf)
      | (refine Obl.mk ⟨by omega, by omega, ⟨by omega, by omega⟩⟩ ?_; conv => whnf)
      | ((with_reducible refine Tst.tt ?_); conv => whnf)
      | ((with_reducible refine Tst.ff ?_); conv => whnf)
      | ((with_reducible refine Tst.dec (fun _ => ?_) (fun _ => ?_)) <;> first | (exfalso; omega) | (conv => whnf))
      | ((with_reducible refine Tst.not ?_))
      | (refine Wit.conv ⟨by omega, by omega⟩ ?_; conv => whnf)
      | ((with_reducible refine IdxV.nat (by omega) ?_); conv => whnf)
      | ((with_reducible refine SameW.mk rfl ?_); conv => whnf)
      | (refine LoadV.mem (i := 0) (by assumption) rfl rfl ?_; conv => whnf)
      | (refine LoadV.mem (i := 1) (by assumption) rfl rfl ?_; conv => whnf)
      | (refine LoadV.mem (i := 2) (by assumption) rfl rfl ?_; conv => whnf)
      | ((with_reducible refine Tst.beqT ?_))
      | ((with_reducible refine Tst.beqF ?_))
      | (refine Tst.yes rfl ?_; conv => whnf)
      | (refine Tst.no rfl ?_; conv => whnf)))
      refine ElemV.sl (hn.vA.ext hm2.ext) rfl k rfl (by omega) ?_
      intro eb off hc
      (conv => whnf)
      refine LoadV.cell0 hc ?_
      (conv => whnf)
      refine CallV.of (refIri_plain _ (h2 k hlt).1 _) ?_
      rintro v w3 ⟨rfl, he⟩
      have hfk := vsz _ (List.getElem_mem hlt)
      (conv => whnf)
      refine ⟨by show (tailT _ ++ bs [124, 94]).size + (angT _).size ≤ _; rw [bsz]; show _ + 2 + _ ≤ _; omega, ?_⟩
      (conv => whnf)
      (repeat' (first
      | (refine Obl.mk ⟨by omega, by omega⟩ ?_; conv => whnf)
      | (refine Obl.mk ⟨by omega, by omega, ⟨by omega, by omega⟩⟩ ?_; conv => whnf)
      | ((with_reducible refine Tst.tt ?_); conv => whnf)
      | ((with_reducible refine Tst.ff ?_); conv => whnf)
      | ((with_reducible refine Tst.dec (fun _ => ?_) (fun _ => ?_)) <;> first | (exfalso; omega) | (conv => whnf))
      | ((with_reducible refine Tst.not ?_))
      | (refine Wit.conv ⟨by omega, by omega⟩ ?_; conv => whnf)
      | ((with_reducible refine IdxV.nat (by omega) ?_); conv => whnf)
      | ((with_reducible refine SameW.mk rfl ?_); conv => whnf)
      | (refine LoadV.mem (i := 0) (by assumption) rfl rfl ?_; conv => whnf)
      | (refine LoadV.mem (i := 1) (by assumption) rfl rfl ?_; conv => whnf)
      | (refine LoadV.mem (i := 2) (by assumption) rfl rfl ?_; conv => whnf)
      | ((with_reducible refine Tst.beqT ?_))
      | ((with_reducible refine Tst.beqF ?_))
      | (refine Tst.yes rfl ?_; conv => whnf)
      | (refine Tst.no rfl ?_; conv => whnf)))
      refine ⟨k + 1, ⟨rfl, ?_, rfl, trivial⟩, ⟨by omega, hm2.call he⟩, by omega⟩
      rw [List.take_succ_eq_append_getElem hlt, List.map_append, List.map_singleton, ← List.append_assoc, tailT_snoc, ← ByteArray.append_assoc, @ByteArray.append_assoc (tailT _) (bs [124]) (bs [94])]; rfl
    all_goals
      obtain rfl : k = n.v.length := by omega
      rw [List.take_of_length_le (Nat.le_refl _)] at *
      have hne : (n.f.map angT ++ n.v.map fun s => bs [94] ++ angT s) ≠ [] := fun e => by rw [e] at hkl; simp at hkl; omega
      obtain ⟨hc1, hc2⟩ := tailT_cut _ hne
      refine SliceS.at_ 1 _ rfl rfl hc2 (Nat.le_refl _) ?_
      rw [hc1]
      have hjs : (joinT (n.f.map angT ++ n.v.map fun s => bs [94] ++ angT s) [124]).size ≤ 100000 * 65540 := by
        rw [← hc1, ByteArray.size_extract]; omega
    · (conv => whnf)
      refine ⟨?_, hm2.ext⟩
      rw [refNotT, if_pos (by rw [hlen]; omega)]; rfl
    · (conv => whnf)
      refine ⟨by show 1 + (joinT _ _).size ≤ _; omega, ?_⟩
      (conv => whnf)
      refine ⟨by show (_ ++ joinT _ _).size + 1 ≤ _; rw [bsz]; show 1 + (joinT _ _).size + 1 ≤ _; omega, ?_⟩
      (conv => whnf)
      refine ⟨?_, hm2.ext⟩
      rw [refNotT, if_neg (by rw [hlen]; omega)]; rfl
end Go.Proofs.YtajgbepghniciaaGreatDoor
