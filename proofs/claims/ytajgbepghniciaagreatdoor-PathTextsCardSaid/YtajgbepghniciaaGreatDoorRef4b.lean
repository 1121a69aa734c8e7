/- The document's utf: Next, Check, Escape. -/
import Derived.Test.YtajgbepghniciaaGreatDoorRef4
namespace Go.Proofs.YtajgbepghniciaaGreatDoor
open Go.RowKit V
set_option maxRecDepth 100000

theorem decN_zero {l : List UInt8} (h : (decN l).2 = 0) : decN l = (0, 0) := by
  unfold decN at h ⊢
  match l with
  | [] => rfl
  | a :: t =>
    simp only at h ⊢
    split
    · rfl
    · rename_i hn
      rw [if_neg hn] at h
      split
      · rename_i hc
        rw [if_pos hc] at h
        split
        · rfl
        · rename_i hs
          rw [if_neg hs] at h
          simp only at h
          omega
      · rfl
/-- what is encoded is decoded -/
theorem dec_enc (r : Nat) (h : scalarB r = true) (t : List UInt8) : decN (encL r ++ t) = (r, (encL r).length) := by
  have hr : r ≤ 1114111 ∧ (r < 55296 ∨ 57343 < r) := by simp [scalarB] at h; omega
  have tn : ∀ n : Nat, n < 256 → (UInt8.ofNat n).toNat = n := fun n hn => by rw [UInt8.toNat_ofNat']; omega
  unfold encL
  by_cases h1 : r < 128
  · rw [if_pos h1]
    have e : leadI r = (1, r) := by rw [leadI, if_pos h1]
    simp only [List.cons_append, List.nil_append, decN, tn r (by omega), e, Nat.sub_self, List.take_zero, List.all_nil, if_true, accR, List.foldl_nil, leastN]
    rw [if_neg (by simp), h]
    simp
  rw [if_neg h1]
  by_cases h2 : r < 2048
  · rw [if_pos h2]
    have e : leadI (192 + r / 64) = (2, r / 64) := by rw [leadI, if_neg (by omega), if_neg (by omega), if_pos (by omega)]; congr 1; omega
    have c : cont (UInt8.ofNat (128 + r % 64)) = true := by rw [cont, tn _ (by omega)]; simp; omega
    have hacc : r / 64 * 64 + (128 + r % 64) % 64 = r := by omega
    simp only [List.cons_append, List.nil_append, decN, tn (192 + r / 64) (by omega), e, List.length_cons, Nat.reduceSub, List.take_succ_cons, List.take_zero, List.all_cons, List.all_nil, Bool.and_true, c, if_true, accR, List.foldl_cons, List.foldl_nil, tn (128 + r % 64) (by omega), hacc]
    rw [if_neg (by omega), if_neg (by rw [h, show leastN 2 = 128 from rfl]; simp; omega)]
    rfl
  rw [if_neg h2]
  by_cases h3 : r < 65536
  · rw [if_pos h3]
    have e : leadI (224 + r / 4096) = (3, r / 4096) := by rw [leadI, if_neg (by omega), if_neg (by omega), if_neg (by omega), if_pos (by omega)]; congr 1; omega
    have c : cont (UInt8.ofNat (128 + r % 64)) = true := by rw [cont, tn _ (by omega)]; simp; omega
    have c2 : cont (UInt8.ofNat (128 + r / 64 % 64)) = true := by rw [cont, tn _ (by omega)]; simp; omega
    have hacc : (r / 4096 * 64 + (128 + r / 64 % 64) % 64) * 64 + (128 + r % 64) % 64 = r := by omega
    simp only [List.cons_append, List.nil_append, decN, tn (224 + r / 4096) (by omega), e, List.length_cons, Nat.reduceSub, List.take_succ_cons, List.take_zero, List.all_cons, List.all_nil, Bool.and_true, c, c2, if_true, accR, List.foldl_cons, List.foldl_nil, tn (128 + r % 64) (by omega), tn (128 + r / 64 % 64) (by omega), hacc]
    rw [if_neg (by omega), if_neg (by rw [h, show leastN 3 = 2048 from rfl]; simp; omega)]
    rfl
  rw [if_neg h3]
  have e : leadI (240 + r / 262144) = (4, r / 262144) := by rw [leadI, if_neg (by omega), if_neg (by omega), if_neg (by omega), if_neg (by omega), if_pos (by omega)]; congr 1; omega
  have c : cont (UInt8.ofNat (128 + r % 64)) = true := by rw [cont, tn _ (by omega)]; simp; omega
  have c2 : cont (UInt8.ofNat (128 + r / 64 % 64)) = true := by rw [cont, tn _ (by omega)]; simp; omega
  have c3 : cont (UInt8.ofNat (128 + r / 4096 % 64)) = true := by rw [cont, tn _ (by omega)]; simp; omega
  have hacc : ((r / 262144 * 64 + (128 + r / 4096 % 64) % 64) * 64 + (128 + r / 64 % 64) % 64) * 64 + (128 + r % 64) % 64 = r := by omega
  simp only [List.cons_append, List.nil_append, decN, tn (240 + r / 262144) (by omega), e, List.length_cons, Nat.reduceSub, List.take_succ_cons, List.take_zero, List.all_cons, List.all_nil, Bool.and_true, c, c2, c3, if_true, accR, List.foldl_cons, List.foldl_nil, tn (128 + r % 64) (by omega), tn (128 + r / 64 % 64) (by omega), tn (128 + r / 4096 % 64) (by omega), hacc]
  rw [if_neg (by omega), if_neg (by rw [h, show leastN 4 = 65536 from rfl]; simp; omega)]
  rfl
/-- a guess meets just the scalar that stands there -/
theorem guess_hit (L : List UInt8) (n : Nat) (h : 0 ≤ guessR (L.take n)) (hn : n ≤ L.length) : decN L = ((guessR (L.take n)).toNat, n) := by
  unfold guessR at h ⊢
  split at h
  · rename_i hg
    rw [if_pos hg]
    obtain ⟨h1, h2⟩ := hg
    have hr : guessI (L.take n) = ((guessI (L.take n)).toNat : Int) := by simp [scalarB] at h1; omega
    rw [hr] at h1
    have hd := dec_enc _ h1 (L.drop n)
    rw [h2, List.take_append_drop] at hd
    rw [hd]
    simp; omega
  · omega
theorem guess_ok (L : List UInt8) (h : (decN L).2 ≠ 0) : guessR (L.take (decN L).2) = (decN L).1 := by
  obtain ⟨h1, h2, h3⟩ := decN_enc h
  have hg : guessI (L.take (decN L).2) = (decN L).1 := by
    rcases decN_cases L h with ⟨a, t, rfl, e, h1⟩ | ⟨a, b, t, rfl, e, h1, h2, h3, h4⟩ | ⟨a, b, c, t, rfl, e, h1, h2, h3, h4, h5, h6⟩ | ⟨a, b, c, d, t, rfl, e, h1, h2, h3, h4, h5, h6, h7⟩
    all_goals
      rw [e]
      simp only [List.take_succ_cons, List.take_zero, guessI, List.headD_cons, List.tail_cons, List.length_cons, List.length_nil, gacc, List.foldl_cons, List.foldl_nil]
    · show (a.toNat : Int) - 0 = _; omega
    · show ((a.toNat : Int) - 192) * 64 + b.toNat - 128 = _; omega
    · show (((a.toNat : Int) - 224) * 64 + b.toNat - 128) * 64 + c.toNat - 128 = _; omega
    · show ((((a.toNat : Int) - 240) * 64 + b.toNat - 128) * 64 + c.toNat - 128) * 64 + d.toNat - 128 = _; omega
  unfold guessR
  rw [hg, if_pos ⟨h1, by rw [Int.toNat_natCast]; exact h2⟩]

theorem refNext_any (s : ByteArray) (p : Nat) (hp : p < s.size) (hs : s.size ≤ 140737488355328) (w : World) :
    Gv Tryz.prog 198 [.string s, .int .i64 p] w fun v w' => v = .tuple #[.int .i64 (decN (s.data.toList.drop p)).1, .int .i64 (decN (s.data.toList.drop p)).2] ∧ Ext w w' := by
  obtain ⟨L, hL⟩ : ∃ L, L = s.data.toList.drop p := ⟨_, rfl⟩
  have hll : L.length = s.size - p := by rw [hL, drop_len]
  have hle := decN_le L
  have hle4 := decN_le4 L
  rw [← hL]
  refine gv (by kernel_rfl) Tryz.func198 rfl Tryz.ntmps198 rfl ?_; conv => whnf
  (repeat' (first
      | (refine Obl.mk ⟨by omega, by omega⟩ ?_; conv => whnf)
      | (refine Obl.mk ⟨by omega, by omega, ⟨by omega, by omega⟩⟩ ?_; conv => whnf)
      | ((with_reducible refine Tst.tt ?_); conv => whnf)
      | ((with_reducible refine Tst.ff ?_); conv => whnf)
      | ((with_reducible refine Tst.dec (fun _ => ?_) (fun _ => ?_)) <;> first | (exfalso; omega) | (conv => whnf))
      | ((with_reducible refine Tst.not ?_))
      | (refine Wit.conv ⟨by omega, by omega⟩ ?_; conv => whnf)
      | ((with_reducible refine IdxV.nat (by omega) ?_); conv => whnf)
      | ((with_reducible refine SameW.mk rfl ?_); conv => whnf)
      | (refine LoadV.mem (i := 0) (by assumption) rfl rfl ?_; conv => whnf)
      | (refine LoadV.mem (i := 1) (by assumption) rfl rfl ?_; conv => whnf)
      | (refine LoadV.mem (i := 2) (by assumption) rfl rfl ?_; conv => whnf)
      | ((with_reducible refine Tst.beqT ?_))
      | ((with_reducible refine Tst.beqF ?_))
      | (refine Tst.yes rfl ?_; conv => whnf)
      | (refine Tst.no rfl ?_; conv => whnf)))
  refine loopV (fun n : Nat => [(0, .string s), (1, .int .i64 p), (6, .int .i64 n)]) (fun n w1 => 1 ≤ n ∧ n ≤ 5 ∧ n ≤ L.length + 1 ∧ (∀ m, m < n → m = 0 ∨ (decN L).2 ≠ m) ∧ Ext w w1) (fun n => 5 - n) 1 ⟨rfl, rfl, rfl, trivial⟩ ⟨by omega, by omega, by omega, fun m hm => .inl (by omega), Ext.refl _⟩ ?_
  rintro n w1 ρ' ⟨h1, h2, h3, h4, he⟩
  (conv => whnf)
  (repeat' (first
      | (refine Obl.mk ⟨by omega, by omega⟩ ?_; conv => whnf)
      | (refine Obl.mk ⟨by omega, by omega, ⟨by omega, by omega⟩⟩ ?_; conv => whnf)
      | ((with_reducible refine Tst.tt ?_); conv => whnf)
      | ((with_reducible refine Tst.ff ?_); conv => whnf)
      | ((with_reducible refine Tst.dec (fun _ => ?_) (fun _ => ?_)) <;> first | (exfalso; omega) | (conv => whnf))
      | ((with_reducible refine Tst.not ?_))
      | (refine Wit.conv ⟨by omega, by omega⟩ ?_; conv => whnf)
      | ((with_reducible refine IdxV.nat (by omega) ?_); conv => whnf)
      | ((with_reducible refine SameW.mk rfl ?_); conv => whnf)
      | (refine LoadV.mem (i := 0) (by assumption) rfl rfl ?_; conv => whnf)
      | (refine LoadV.mem (i := 1) (by assumption) rfl rfl ?_; conv => whnf)
      | (refine LoadV.mem (i := 2) (by assumption) rfl rfl ?_; conv => whnf)
      | ((with_reducible refine Tst.beqT ?_))
      | ((with_reducible refine Tst.beqF ?_))
      | (refine Tst.yes rfl ?_; conv => whnf)
      | (refine Tst.no rfl ?_; conv => whnf)))
  · refine SliceS.at_ p (p + n) rfl (show (p : Int) + (n : Int) = ((p + n : Nat) : Int) by omega) (by omega) (by omega) ?_
    have hx : (s.extract p (p + n)).data.toList = L.take n := by
      rw [Lib.extract_data, hL]; congr 1; omega
    have hxs : (s.extract p (p + n)).size = n := by
      rw [ByteArray.size_extract]; omega
    (conv => whnf)
    refine ⟨fun cap cs b w2 hcap hcs hb hw => ?_⟩
    have he2 : Ext w w2 := by rw [hw]; exact he.drew.alloc _
    have hcell : CellsAt w2 b 0 (byteCells (L.take n)) := fun k v hv => by
      have hget : w2.heap[b]? = some (.cells cs 5 (cs.size, cs.size + 1)) := by
        subst hw hb; exact heap_alloc_new _ _
      rw [cell_heap hget, Nat.zero_add, hcs, hx]
      have : k < (byteCells (L.take n)).length := (List.getElem?_eq_some_iff.1 hv).1
      rw [List.getElem?_toArray, List.getElem?_append_left this]; exact hv
    have hg := guess_any (L.take n) b cap w2 hcell (by rw [List.length_take]; omega) (by rw [List.length_take]; omega)
    rw [show (L.take n).length = (s.extract p (p + n)).size by rw [hxs, List.length_take]; omega] at hg
    (conv => whnf)
    refine CallV.of (hg) ?_
    rintro v w3 ⟨rfl, he3⟩
    have hlt : -1 ≤ guessR (L.take n) := by
      unfold guessR; split
      · rename_i h; have := h.1; simp [scalarB] at this; omega
      · omega
    (conv => whnf)
    (repeat' (first
      | (refine Obl.mk ⟨by omega, by omega⟩ ?_; conv => whnf)
      | (refine Obl.mk ⟨by omega, by omega, ⟨by omega, by omega⟩⟩ ?_; conv => whnf)
      | ((with_reducible refine Tst.tt ?_); conv => whnf)
      | ((with_reducible refine Tst.ff ?_); conv => whnf)
      | ((with_reducible refine Tst.dec (fun _ => ?_) (fun _ => ?_)) <;> first | (exfalso; omega) | (conv => whnf))
      | ((with_reducible refine Tst.not ?_))
      | (refine Wit.conv ⟨by omega, by omega⟩ ?_; conv => whnf)
      | ((with_reducible refine IdxV.nat (by omega) ?_); conv => whnf)
      | ((with_reducible refine SameW.mk rfl ?_); conv => whnf)
      | (refine LoadV.mem (i := 0) (by assumption) rfl rfl ?_; conv => whnf)
      | (refine LoadV.mem (i := 1) (by assumption) rfl rfl ?_; conv => whnf)
      | (refine LoadV.mem (i := 2) (by assumption) rfl rfl ?_; conv => whnf)
      | ((with_reducible refine Tst.beqT ?_))
      | ((with_reducible refine Tst.beqF ?_))
      | (refine Tst.yes rfl ?_; conv => whnf)
      | (refine Tst.no rfl ?_; conv => whnf)))
    · have hhit := guess_hit L n (by omega) (by omega)
      refine ⟨?_, he2.trans he3⟩
      rw [hhit]
      show Value.tuple #[.int .i64 _, .int .i64 _] = .tuple #[.int .i64 ((guessR (L.take n)).toNat : Int), .int .i64 (n : Int)]
      rw [Int.toNat_of_nonneg (by omega)]
    · refine ⟨n + 1, ⟨rfl, rfl, rfl, trivial⟩, ⟨by omega, by omega, by omega, fun m hm => ?_, he2.trans he3⟩, by omega⟩
      rcases Nat.lt_or_ge m n with h | h
      · exact h4 m h
      · obtain rfl : m = n := by omega
        refine .inr fun hd => ?_
        have := guess_ok L (by omega)
        rw [hd] at this; omega
  · have hz : (decN L).2 = 0 := by
      rcases Nat.eq_zero_or_pos (decN L).2 with h | h
      · exact h
      · rcases h4 (decN L).2 (by omega) with h' | h'
        · omega
        · exact absurd rfl h'
    rw [decN_zero hz]; exact ⟨rfl, he⟩
  · have hz : (decN L).2 = 0 := by
      rcases Nat.eq_zero_or_pos (decN L).2 with h | h
      · exact h
      · rcases h4 (decN L).2 (by omega) with h' | h'
        · omega
        · exact absurd rfl h'
    rw [decN_zero hz]; exact ⟨rfl, he⟩

theorem refCheck_any (s : ByteArray) (hs : s.size ≤ 140737488355328) (w : World) :
    Gv Tryz.prog 127 [.string s] w fun v w' => (∃ i : Int, v = .int .i64 i ∧ i < 4611686018427387904 ∧ (scal s.data.toList ≠ none → i = -1) ∧ (scal s.data.toList = none → 0 ≤ i)) ∧ Ext w w' := by
  refine gv (by kernel_rfl) Tryz.func127 rfl Tryz.ntmps127 rfl ?_; conv => whnf
  refine loopV (fun p : Nat => [(0, .string s), (3, .int .i64 p)]) (fun p w1 => p ≤ s.size ∧ (scal s.data.toList = none ↔ scal (s.data.toList.drop p) = none) ∧ Ext w w1) (fun p => s.size - p) 0 ⟨rfl, rfl, trivial⟩ ⟨by omega, by simp, Ext.refl _⟩ ?_
  rintro p w1 ρ' ⟨h1, h2, he⟩
  (conv => whnf)
  (repeat' (first
      | (refine Obl.mk ⟨by omega, by omega⟩ ?_; conv => whnf)
      | (refine Obl.mk ⟨by omega, by omega, ⟨by omega, by omega⟩⟩ ?_; conv => whnf)
      | ((with_reducible refine Tst.tt ?_); conv => whnf)
      | ((with_reducible refine Tst.ff ?_); conv => whnf)
      | ((with_reducible refine Tst.dec (fun _ => ?_) (fun _ => ?_)) <;> first | (exfalso; omega) | (conv => whnf))
      | ((with_reducible refine Tst.not ?_))
      | (refine Wit.conv ⟨by omega, by omega⟩ ?_; conv => whnf)
      | ((with_reducible refine IdxV.nat (by omega) ?_); conv => whnf)
      | ((with_reducible refine SameW.mk rfl ?_); conv => whnf)
      | (refine LoadV.mem (i := 0) (by assumption) rfl rfl ?_; conv => whnf)
      | (refine LoadV.mem (i := 1) (by assumption) rfl rfl ?_; conv => whnf)
      | (refine LoadV.mem (i := 2) (by assumption) rfl rfl ?_; conv => whnf)
      | ((with_reducible refine Tst.beqT ?_))
      | ((with_reducible refine Tst.beqF ?_))
      | (refine Tst.yes rfl ?_; conv => whnf)
      | (refine Tst.no rfl ?_; conv => whnf)))
  · refine CallV.of (refNext_any s p (by omega) hs _) ?_
    rintro v w' ⟨rfl, he'⟩
    have hle := decN_le (s.data.toList.drop p)
    rw [drop_len] at hle
    (conv => whnf)
    (repeat' (first
      | (refine Obl.mk ⟨by omega, by omega⟩ ?_; conv => whnf)
      | (refine Obl.mk ⟨by omega, by omega, ⟨by omega, by omega⟩⟩ ?_; conv => whnf)
      | ((with_reducible refine Tst.tt ?_); conv => whnf)
      | ((with_reducible refine Tst.ff ?_); conv => whnf)
      | ((with_reducible refine Tst.dec (fun _ => ?_) (fun _ => ?_)) <;> first | (exfalso; omega) | (conv => whnf))
      | ((with_reducible refine Tst.not ?_))
      | (refine Wit.conv ⟨by omega, by omega⟩ ?_; conv => whnf)
      | ((with_reducible refine IdxV.nat (by omega) ?_); conv => whnf)
      | ((with_reducible refine SameW.mk rfl ?_); conv => whnf)
      | (refine LoadV.mem (i := 0) (by assumption) rfl rfl ?_; conv => whnf)
      | (refine LoadV.mem (i := 1) (by assumption) rfl rfl ?_; conv => whnf)
      | (refine LoadV.mem (i := 2) (by assumption) rfl rfl ?_; conv => whnf)
      | ((with_reducible refine Tst.beqT ?_))
      | ((with_reducible refine Tst.beqF ?_))
      | (refine Tst.yes rfl ?_; conv => whnf)
      | (refine Tst.no rfl ?_; conv => whnf)))
    · refine ⟨⟨p, rfl, by omega, fun h => ?_, fun _ => by omega⟩, he.trans he'⟩
      exact absurd (h2.2 (scal_none (drop_ne s p (by omega)) (by omega))) h
    · refine ⟨p + (decN (s.data.toList.drop p)).2, ⟨rfl, rfl, trivial⟩, ⟨by omega, ?_, he.trans he'⟩, by omega⟩
      rw [h2, scal_step (drop_ne s p (by omega)) (by omega), List.drop_drop]
      simp
  · refine ⟨⟨-1, rfl, by omega, fun _ => rfl, fun h => ?_⟩, he⟩
    rw [h2, List.drop_eq_nil_of_le (by simp; omega)] at h
    rw [scal] at h; cases h
end Go.Proofs.YtajgbepghniciaaGreatDoor
