/- Lemmas and contracts of functions on the way to the law's card (part 8 of 17). -/
import Derived.Test.YtajgbepghniciaaGreatDoorJC7
import Derived.Shelf.Strings.Builder1
import Derived.Shelf.Strings.Builder2
import Derived.Shelf.Strings.OnBuilder
import Derived.Shelf.Small.Utf8
import Derived.Shelf.Small.Strs
import Derived.Shelf.Strings.BuilderF
import Derived.Shelf.Strings.BuilderK
import Derived.Shelf.Strings.Search1
import Derived.Shelf.Strings.Search2
import Derived.Shelf.Strings.Search3
import Derived.Shelf.Strings.Cut
import Derived.Shelf.Strings.Count
import Derived.Shelf.LaysM
import Derived.Shelf.Strings.Shaped
import Derived.Shelf.Sort.Plain
import Derived.Shelf.Strings.Split
import Derived.Shelf.Strings.Runes
import Derived.Shelf.Unicode.DecodeSlow
import Derived.Shelf.Slices.Turned
import Derived.Ground.Names2Prog
import Derived.Shelf.Slices.Clone
import Derived.Shelf.Slices.CompactS
import Derived.Shelf.Slices.Cells
import Derived.Shelf.Slices.In.SortNone
import Derived.Lib.SplitLaws
namespace Go.Proofs
open Go.Shelf
def Tryz.lays190_ren : Go.Shelf.Ren := ⟨fun | 190 => 38 | 125 => 82 | 258 => 81 | 128 => 140 | 129 => 141 | 302 => 132 | 303 => 133 | 304 => 134 | 305 => 135 | 306 => 136 | 307 => 137 | 308 => 84 | 309 => 138 | 310 => 139 | 333 => 199 | 329 => 200 | 330 => 201 | 334 => 202 | 335 => 203 | 336 => 144 | 344 => 249 | n => n, fun | 31 => 37 | 9 => 9 | 3 => 3 | 46 => 168 | 0 => 0 | 51 => 113 | 53 => 175 | 4 => 4 | 183 => 232 | 182 => 231 | 131 => 102 | 5 => 5 | 218 => 313 | 222 => 316 | 228 => 361 | 229 => 311 | n => n, fun | n => n⟩
theorem Tryz.lays190 : Go.Proofs.Lays.n190 Tryz.prog Tryz.lays190_ren := {
  mixed := by kernel_rfl
  f125 := Tryz.func82.trans (congrArg some (by kernel_rfl))
  f128 := Tryz.func140.trans (congrArg some (by kernel_rfl))
  f129 := Tryz.func141.trans (congrArg some (by kernel_rfl))
  f190 := Tryz.func38.trans (congrArg some (by kernel_rfl))
  f258 := Tryz.func81.trans (congrArg some (by kernel_rfl))
  f302 := Tryz.func132.trans (congrArg some (by kernel_rfl))
  f303 := Tryz.func133.trans (congrArg some (by kernel_rfl))
  f304 := Tryz.func134.trans (congrArg some (by kernel_rfl))
  f305 := Tryz.func135.trans (congrArg some (by kernel_rfl))
  f306 := Tryz.func136.trans (congrArg some (by kernel_rfl))
  f307 := Tryz.func137.trans (congrArg some (by kernel_rfl))
  f308 := Tryz.func84.trans (congrArg some (by kernel_rfl))
  f309 := Tryz.func138.trans (congrArg some (by kernel_rfl))
  f310 := Tryz.func139.trans (congrArg some (by kernel_rfl))
  f329 := Tryz.func200.trans (congrArg some (by kernel_rfl))
  f330 := Tryz.func201.trans (congrArg some (by kernel_rfl))
  f333 := Tryz.func199.trans (congrArg some (by kernel_rfl))
  f334 := Tryz.func202.trans (congrArg some (by kernel_rfl))
  f335 := Tryz.func203.trans (congrArg some (by kernel_rfl))
  f336 := Tryz.func144.trans (congrArg some (by kernel_rfl))
  f344 := Tryz.func249.trans (congrArg some (by kernel_rfl))
  t0 := Tryz.underlying0
  a0 := Tryz.isAgg0
  z0 := Tryz.sizeOf0
  v0 := Tryz.zeroValue0
  t3 := Tryz.underlying3
  a3 := Tryz.isAgg3
  z3 := Tryz.sizeOf3
  v3 := Tryz.zeroValue3
  t4 := Tryz.underlying4
  a4 := Tryz.isAgg4
  z4 := Tryz.sizeOf4
  v4 := Tryz.zeroValue4
  t5 := Tryz.underlying5
  a5 := Tryz.isAgg5
  z5 := Tryz.sizeOf5
  v5 := Tryz.zeroValue5
  t9 := Tryz.underlying9
  a9 := Tryz.isAgg9
  z9 := Tryz.sizeOf9
  v9 := Tryz.zeroValue9
  t31 := Tryz.underlying37
  a31 := Tryz.isAgg37
  z31 := Tryz.sizeOf37
  v31 := Tryz.zeroValue37
  t46 := Tryz.underlying168
  a46 := Tryz.isAgg168
  z46 := Tryz.sizeOf168
  v46 := Tryz.zeroValue168
  t51 := Tryz.underlying113
  a51 := Tryz.isAgg113
  z51 := Tryz.sizeOf113
  v51 := Tryz.zeroValue113
  t53 := Tryz.underlying175
  a53 := Tryz.isAgg175
  z53 := Tryz.sizeOf175
  v53 := Tryz.zeroValue175
  t131 := Tryz.underlying102
  a131 := Tryz.isAgg102
  z131 := Tryz.sizeOf102
  v131 := Tryz.zeroValue102
  t182 := Tryz.underlying231
  a182 := Tryz.isAgg231
  z182 := Tryz.sizeOf231
  v182 := Tryz.zeroValue231
  t183 := Tryz.underlying232
  a183 := Tryz.isAgg232
  z183 := Tryz.sizeOf232
  v183 := Tryz.zeroValue232
  t218 := Tryz.underlying313
  a218 := Tryz.isAgg313
  z218 := Tryz.sizeOf313
  v218 := Tryz.zeroValue313
  t222 := Tryz.underlying316
  a222 := Tryz.isAgg316
  z222 := Tryz.sizeOf316
  v222 := Tryz.zeroValue316
  t228 := Tryz.underlying361
  a228 := Tryz.isAgg361
  z228 := Tryz.sizeOf361
  v228 := Tryz.zeroValue361
  t229 := Tryz.underlying311
  a229 := Tryz.isAgg311
  z229 := Tryz.sizeOf311
  v229 := Tryz.zeroValue311 }
open Go.Sort Go.RowKit in
theorem Tryz.slices_Sort_string (blk off cap : Nat) (ss : List (List UInt8)) (w : World) (hH : Holds encStr w blk off ss.toArray) (hblk : blk < w.heap.size) (hsz : ss.length < 4611686018427387904) :
    Calls Tryz.prog 38 #[.slice (some ⟨blk, off, none⟩) ss.length cap] w fun e w' =>
      e = .returned (.tuple #[]) ∧ ∃ n os, w' = grow (putRow encStr (Sort.ahead w n) blk off (ss.mergeSort fun x y => decide (x ≤ y)).toArray) os := Any.slices_Sort_string Tryz.lays190 blk off cap ss w hH hblk hsz
def Tryz.lays221_ren : Go.Shelf.Ren := ⟨fun | 221 => 256 | 268 => 303 | 138 => 304 | 143 => 305 | 195 => 317 | 197 => 312 | 218 => 318 | 219 => 311 | 260 => 320 | 217 => 313 | 225 => 316 | 224 => 315 | 267 => 319 | 266 => 321 | 314 => 322 | n => n, fun | 9 => 9 | 3 => 3 | 31 => 37 | 4 => 4 | 0 => 0 | 105 => 318 | 21 => 21 | 5 => 5 | 46 => 168 | 119 => 419 | 139 => 422 | 138 => 421 | 146 => 417 | 51 => 113 | n => n, fun | 1 => 4 | 3 => 5 | 4 => 6 | n => n⟩
def Tryz.lays146_ren : Go.Shelf.Ren := ⟨fun | 146 => 210 | 221 => 256 | 268 => 303 | 138 => 304 | 143 => 305 | 195 => 317 | 197 => 312 | 218 => 318 | 219 => 311 | 260 => 320 | 217 => 313 | 225 => 316 | 224 => 315 | 267 => 319 | 266 => 321 | 314 => 322 | n => n, fun | 9 => 9 | 31 => 37 | 3 => 3 | 4 => 4 | 0 => 0 | 105 => 318 | 21 => 21 | 5 => 5 | 46 => 168 | 119 => 419 | 139 => 422 | 138 => 421 | 146 => 417 | 51 => 113 | n => n, fun | 1 => 4 | 3 => 5 | 4 => 6 | n => n⟩
theorem Tryz.lays146 : Go.Proofs.Lays.n146 Tryz.prog Tryz.lays146_ren := {
  mixed := by kernel_rfl
  f138 := Tryz.func304.trans (congrArg some (by kernel_rfl))
  f143 := Tryz.func305.trans (congrArg some (by kernel_rfl))
  f146 := Tryz.func210.trans (congrArg some (by kernel_rfl))
  f195 := Tryz.func317.trans (congrArg some (by kernel_rfl))
  f197 := Tryz.func312.trans (congrArg some (by kernel_rfl))
  f217 := Tryz.func313.trans (congrArg some (by kernel_rfl))
  f218 := Tryz.func318.trans (congrArg some (by kernel_rfl))
  f219 := Tryz.func311.trans (congrArg some (by kernel_rfl))
  f221 := Tryz.func256.trans (congrArg some (by kernel_rfl))
  f224 := Tryz.func315.trans (congrArg some (by kernel_rfl))
  f225 := Tryz.func316.trans (congrArg some (by kernel_rfl))
  f260 := Tryz.func320.trans (congrArg some (by kernel_rfl))
  f266 := Tryz.func321.trans (congrArg some (by kernel_rfl))
  f267 := Tryz.func319.trans (congrArg some (by kernel_rfl))
  f268 := Tryz.func303.trans (congrArg some (by kernel_rfl))
  f314 := Tryz.func322.trans (congrArg some (by kernel_rfl))
  t0 := Tryz.underlying0
  a0 := Tryz.isAgg0
  z0 := Tryz.sizeOf0
  v0 := Tryz.zeroValue0
  t3 := Tryz.underlying3
  a3 := Tryz.isAgg3
  z3 := Tryz.sizeOf3
  v3 := Tryz.zeroValue3
  t4 := Tryz.underlying4
  a4 := Tryz.isAgg4
  z4 := Tryz.sizeOf4
  v4 := Tryz.zeroValue4
  t5 := Tryz.underlying5
  a5 := Tryz.isAgg5
  z5 := Tryz.sizeOf5
  v5 := Tryz.zeroValue5
  t9 := Tryz.underlying9
  a9 := Tryz.isAgg9
  z9 := Tryz.sizeOf9
  v9 := Tryz.zeroValue9
  t21 := Tryz.underlying21
  a21 := Tryz.isAgg21
  z21 := Tryz.sizeOf21
  v21 := Tryz.zeroValue21
  t31 := Tryz.underlying37
  a31 := Tryz.isAgg37
  z31 := Tryz.sizeOf37
  v31 := Tryz.zeroValue37
  t46 := Tryz.underlying168
  a46 := Tryz.isAgg168
  z46 := Tryz.sizeOf168
  v46 := Tryz.zeroValue168
  t51 := Tryz.underlying113
  a51 := Tryz.isAgg113
  z51 := Tryz.sizeOf113
  v51 := Tryz.zeroValue113
  t105 := Tryz.underlying318
  a105 := Tryz.isAgg318
  z105 := Tryz.sizeOf318
  v105 := Tryz.zeroValue318
  t119 := Tryz.underlying419
  a119 := Tryz.isAgg419
  z119 := Tryz.sizeOf419
  t138 := Tryz.underlying421
  a138 := Tryz.isAgg421
  z138 := Tryz.sizeOf421
  v138 := Tryz.zeroValue421
  t139 := Tryz.underlying422
  a139 := Tryz.isAgg422
  z139 := Tryz.sizeOf422
  v139 := Tryz.zeroValue422
  t146 := Tryz.underlying417
  a146 := Tryz.isAgg417
  z146 := Tryz.sizeOf417
  v146 := Tryz.zeroValue417
  g1 := by kernel_rfl
  g3 := by kernel_rfl
  g4 := by kernel_rfl }
open Go.RowKit Go.Lib in
/-- strings.Split. (LAID: no walk: one application.) -/
theorem Tryz.strings_Split (s sep : ByteArray) (m : Int) (w : World) (hs : s.size < 4294967281) (hm : w.cell? ⟨4, 0, none⟩ = some (.int .i64 m)) (h1 : 1 ≤ sep.size) :
    Calls Tryz.prog 210 #[.string s, .string sep] w fun e w' =>
      e = .returned (.slice (some ⟨w.heap.size, 0, none⟩) (Lib.countB s sep + 1) (Lib.countB s sep + 1)) ∧ w' = w.alloc (.cells ((Lib.splitB sep 0 (Lib.countB s sep) s).map Value.string).toArray 9) := Any.strings_Split Tryz.lays146 (by kernel_rfl) s sep m w hs hm h1
def Tryz.laysNm216_ren : Go.Shelf.Ren := ⟨fun | 16 => 48 | n => n, fun | 24 => 37 | 9 => 9 | 4 => 4 | n => n, fun | n => n⟩
theorem Tryz.laysNm216 : Go.Proofs.Lays2.n16 Tryz.prog Tryz.laysNm216_ren := {
  mixed := by kernel_rfl
  f16 := Tryz.func48.trans (congrArg some (by kernel_rfl))
  t4 := Tryz.underlying4
  a4 := Tryz.isAgg4
  z4 := Tryz.sizeOf4
  v4 := Tryz.zeroValue4
  t9 := Tryz.underlying9
  a9 := Tryz.isAgg9
  z9 := Tryz.sizeOf9
  v9 := Tryz.zeroValue9
  t24 := Tryz.underlying37
  a24 := Tryz.isAgg37
  z24 := Tryz.sizeOf37
  v24 := Tryz.zeroValue37
  i9 := by kernel_rfl }
open Go.RowKit Go.Lib in
/-- slices.Clone at []string: "Clone returns a copy of the slice. The elements are copied using assignment, so this is a shallow clone. The result may have additional unused capacity. The result preserves the nilness of s.": OF A SLICE THAT IS NOT nil IT RETURNS A SLICE THAT IS NOT nil, OF THE SAME ELEMENTS, IN MEMORY OF THE CALL's OWN: in the how-to's words (6f): 'w'.ownsRow B e 1 v' n cells': v' begins at the head of a row among the blocks from B on (B: the heap's size at the call), not frozen, whose first cells are the elements · 'Below B w w'': below B all is as it was. The capacity is whatever the run-time gives. 'zs': what the cells behind the slice's address hold; 'zs.take n': its elements. (LAID: no walk: one application.) -/
theorem Tryz.slices_Clone_string (b off n c : Nat) (zs : List ByteArray) (w : World) (hz : n ≤ zs.length) (hbig : n * 16 ≤ 140737488355328) (hc : ∀ j, j < zs.length → w.cell? ⟨b, off + j, none⟩ = some (.string (zs.getD j ByteArray.empty))) :
    Calls Tryz.prog 48 #[.slice (some ⟨b, off, none⟩) n c] w fun e w' => ∃ v', e = .returned v' ∧ w'.ownsRow w.heap.size 9 1 v' n ((zs.take n).map (Value.string)) ∧ v' ≠ .slice none 0 0 ∧ Below w.heap.size w w' := Any.slices_Clone_string Tryz.laysNm216 b off n c zs w hz hbig hc
open Go.RowKit Go.Lib in
/-- The same at nil: nil comes back; the world is as it was. (LAID: no walk: one application.) -/
theorem Tryz.slices_Clone_string_nil (n c : Nat) (w : World) :
    Calls Tryz.prog 48 #[.slice none n c] w fun e w' => e = .returned (.slice none 0 0) ∧ w' = w := Any.slices_Clone_string_nil Tryz.laysNm216 n c w
open Go.RowKit Go.Lib in
/-- The same at a slice of length 0 that is not nil, WHATEVER ITS ADDRESS (no cell is asked for): a slice that is not nil and owns nothing comes back. (LAID: no walk: one application.) -/
theorem Tryz.slices_Clone_string_zero (a : Addr) (c : Nat) (w : World) :
    Calls Tryz.prog 48 #[.slice (some a) 0 c] w fun e w' => ∃ v', e = .returned v' ∧ w'.ownsRow w.heap.size 9 1 v' 0 [] ∧ v' ≠ .slice none 0 0 ∧ Below w.heap.size w w' := Any.slices_Clone_string_zero Tryz.laysNm216 a c w
def Tryz.lays194_ren : Go.Shelf.Ren := ⟨fun | 194 => 40 | n => n, fun | 31 => 37 | 9 => 9 | 3 => 3 | 4 => 4 | 0 => 0 | n => n, fun | n => n⟩
theorem Tryz.lays194 : Go.Proofs.Lays.n194 Tryz.prog Tryz.lays194_ren := {
  mixed := by kernel_rfl
  f194 := Tryz.func40.trans (congrArg some (by kernel_rfl))
  t0 := Tryz.underlying0
  a0 := Tryz.isAgg0
  z0 := Tryz.sizeOf0
  v0 := Tryz.zeroValue0
  t3 := Tryz.underlying3
  a3 := Tryz.isAgg3
  z3 := Tryz.sizeOf3
  v3 := Tryz.zeroValue3
  t4 := Tryz.underlying4
  a4 := Tryz.isAgg4
  z4 := Tryz.sizeOf4
  v4 := Tryz.zeroValue4
  t9 := Tryz.underlying9
  a9 := Tryz.isAgg9
  z9 := Tryz.sizeOf9
  v9 := Tryz.zeroValue9
  t31 := Tryz.underlying37
  a31 := Tryz.isAgg37
  z31 := Tryz.sizeOf37
  v31 := Tryz.zeroValue37 }
open Go.RowKit Go.Lib Go.Sort in
/-- slices.Compact at []string: "Compact replaces consecutive runs of equal elements with a single copy. This is like the uniq command found on Unix. Compact modifies the contents of the slice s and returns the modified slice, which may have a smaller length. Compact zeroes the elements between the new length and the original length. The result preserves the nilness of s.": IT RETURNS THE SLICE CUT TO 'Lib.compact zs'; ITS CELLS HOLD 'Lib.compact zs', THEN ZERO VALUES up to the old length; all else is as it was, but for the count of draws. IN THE WORDS OF slices.Sort's CONTRACT ('Holds', 'putRow'): so the everyday 'slices.Sort(xs); xs = slices.Compact(xs)' goes from the one contract to the other. It asks 'zs.length ≤ cap' (every slice's: the reslicing 's[:k]' looks at it). Length 0, nil: '.._empty'. (LAID: no walk: one application.) -/
theorem Tryz.slices_Compact_string (blk off cap : Nat) (zs : List (List UInt8)) (w : World) (hH : Holds encStr w blk off zs.toArray) (hsz : zs.length ≤ 9223372036854775807) (hcap : zs.length ≤ cap) :
    Calls Tryz.prog 40 #[.slice (some ⟨blk, off, none⟩) zs.length cap] w fun e w' => e = .returned (.slice (some ⟨blk, off, none⟩) (Lib.compact zs).length cap) ∧ ∃ q, w' = putRow encStr (Sort.ahead w q) blk off (Lib.compact zs ++ List.replicate (zs.length - (Lib.compact zs).length) []).toArray := Any.slices_Compact_string Tryz.lays194 blk off cap zs w hH hsz hcap
open Go.RowKit Go.Lib Go.Sort in
/-- The same at a slice of length 0, a nil one too: it comes back as it is. (LAID: no walk: one application.) -/
theorem Tryz.slices_Compact_string_empty (a : Option Addr) (cap : Nat) (w : World) :
    Calls Tryz.prog 40 #[.slice a 0 cap] w fun e w' => e = .returned (.slice a 0 cap) ∧ w' = w := Any.slices_Compact_string_empty Tryz.lays194 a cap w
open Go.RowKit Go.Sort in
/-- .. and plain. (LAID: no walk: one application.) -/
theorem Tryz.slices_Sort_string_none (p : Option Addr) (cap : Nat) (w : World) :
    Calls Tryz.prog 38 #[.slice p 0 cap] w fun e w' => e = .returned (.tuple #[]) ∧ w' = w := Any.slices_Sort_string_none Tryz.lays190 p cap w

end Go.Proofs
namespace Go.Proofs.YtajgbepghniciaaGreatDoor
open Go.RowKit

def partsL : List UInt8 → List (List UInt8)
  | [] => [[]]
  | c :: t => if c = 45 then [] :: partsL t else match partsL t with
    | [] => [[c]]
    | p :: ps => (c :: p) :: ps
theorem splitK_dash : ∀ l : List UInt8, Go.Lib.splitK [45] 0 (Go.Lib.count l [45]) l = partsL l
  | [] => by
    have : Go.Lib.count [] [45] = 0 := by decide
    rw [this]; rfl
  | c :: t => by
    have ih := splitK_dash t
    by_cases h : c = 45
    · subst h
      rw [Go.Lib.count_cons_eq, Nat.add_comm 1, partsL, if_pos rfl, ← ih, Go.Lib.splitK]
      have hi : Go.Lib.index (45 :: t) [45] = 0 := by
        rw [Go.Lib.index, if_pos (by simp [List.isPrefixOf])]
      rw [hi]
      rfl
    · rw [Go.Lib.count_cons_ne c 45 t h, partsL, if_neg h, ← ih]
      have hi : Go.Lib.index (c :: t) [45] = if Go.Lib.index t [45] == -1 then -1 else Go.Lib.index t [45] + 1 := by
        rw [Go.Lib.index, if_neg (by simp [List.isPrefixOf]; exact fun e => h e.symm)]
      cases Go.Lib.count t [45] with
      | zero => rfl
      | succ k =>
        rw [Go.Lib.splitK, Go.Lib.splitK, hi]
        by_cases hx : Go.Lib.index t [45] = -1
        · simp [hx]
        · have hge := Go.Lib.index_ge t [45]
          have e1 : (Go.Lib.index t [45] == -1) = false := by simpa using hx
          have e2 : ((Go.Lib.index t [45] + 1) == -1) = false := by
            rw [beq_eq_false_iff_ne]; omega
          have e3 : (Go.Lib.index t [45] + 1).toNat = (Go.Lib.index t [45]).toNat + 1 := by omega
          simp only [e1, e2, e3, Bool.false_eq_true, if_false, Nat.add_zero, List.length_singleton, List.take_succ_cons, List.drop_succ_cons]
theorem partsL_len : ∀ l : List UInt8, (partsL l).length ≤ l.length + 1 ∧ ∀ x ∈ partsL l, x.length ≤ l.length
  | [] => by simp [partsL]
  | c :: t => by
    obtain ⟨h1, h2⟩ := partsL_len t
    unfold partsL
    split
    · refine ⟨by simp; omega, fun x hx => ?_⟩
      rcases List.mem_cons.1 hx with rfl | hx
      · simp
      · have := h2 x hx; simp; omega
    · cases hp : partsL t with
      | nil => simp
      | cons p ps =>
        rw [hp] at h1 h2
        refine ⟨by simpa using Nat.le_trans h1 (Nat.le_succ _), fun x hx => ?_⟩
        rcases List.mem_cons.1 hx with rfl | hx
        · have := h2 p (List.mem_cons_self ..); simp; omega
        · have := h2 x (List.mem_cons_of_mem _ hx); simp; omega
end Go.Proofs.YtajgbepghniciaaGreatDoor
namespace Go.Proofs.YtajgbepghniciaaGreatDoor
open Go.RowKit V
set_option maxRecDepth 100000

def dash : ByteArray := ⟨#[45]⟩
/-- a tag's parts -/
def partsS (s : ByteArray) : List ByteArray := Go.Lib.splitB dash 0 (Go.Lib.countB s dash) s
theorem partsS_len (s : ByteArray) : (partsS s).length = Go.Lib.countB s dash + 1 := Go.Lib.splitB_all dash (by decide) 0 _ s rfl
noncomputable def tagR (l : List ByteArray) : Option (List ByteArray) := if seeB privB l = true then some l else (langR l).bind restR
def privQ (x : ByteArray) : Bool := madeB x 1 8 false
def endOk (l : List ByteArray) : Prop := if seeB privB l = true then (l.tail ≠ [] ∧ l.tail.all privQ = true) else l = []
def tagP (l : List ByteArray) : Prop := ∃ l1, tagR l = some l1 ∧ endOk l1
open Classical in
noncomputable def tagE (l : List ByteArray) : Nat := if tagP l then 0 else 61
theorem tagE_ok {l : List ByteArray} (h : tagP l) : tagE l = 0 := by unfold tagE; rw [if_pos h]
theorem tagE_no {l : List ByteArray} (h : ¬ tagP l) : tagE l = 61 := by unfold tagE; rw [if_neg h]
/-- what is asked of a world for strings.Split: the library's bound -/
def MaxLenAt (w : World) : Prop := ∃ m : Int, w.cell? ⟨4, 0, none⟩ = some (.int .i64 m)
theorem MaxLenAt.ext {w w' : World} (h : MaxLenAt w) (he : Ext w w') : MaxLenAt w' := ⟨h.choose, he.cell h.choose_spec⟩
theorem slOf_new {w w' : World} {l : List ByteArray} {t : TypeId} (hw : w' = w.alloc (.cells (l.map Value.string).toArray t)) : SlAt V.encS 1 w' (some ⟨w.heap.size, 0, none⟩) l := by
  subst hw
  refine ⟨fun _ => ⟨w.heap.size, 0, rfl, fun j x hx k v hv => ?_⟩⟩
  cases k with
  | succ k => simp [V.encS] at hv
  | zero =>
    simp only [V.encS, List.getElem?_cons_zero, Option.some.injEq] at hv
    subst hv
    rw [cell_heap (heap_alloc_new w _)]
    simp [hx]
theorem split_any (s : ByteArray) (hs : s.size ≤ 1000000) (w : World) (hM : MaxLenAt w) :
    Gv Tryz.prog 210 [.string s, .string dash] w fun v w' => ∃ b, v = .slice (some ⟨b, 0, none⟩) (partsS s).length (partsS s).length ∧ SlAt V.encS 1 w' (some ⟨b, 0, none⟩) (partsS s) ∧ Ext w w' := by
  obtain ⟨m, hm⟩ := hM
  refine gv_of' (by kernel_rfl) ((Tryz.strings_Split s dash m w (by omega) hm (by decide)).mono ?_)
  rintro e w' ⟨rfl, hw⟩
  exact ⟨_, rfl, w.heap.size, by rw [partsS_len], slOf_new hw, by rw [hw]; exact (Ext.refl w).alloc _⟩
theorem zero7 : ∀ v ∈ [Value.string ⟨#[]⟩, .string ⟨#[]⟩, .string ⟨#[]⟩, .string ⟨#[]⟩, .slice none 0 0, .slice none 0 0, .string ⟨#[]⟩], v.oneCell' = true := by
  intro v hv
  simp at hv
  rcases hv with rfl | rfl | rfl <;> rfl
theorem drop3_sub : ∀ (k : Nat) (l : List ByteArray), (drop3 k l).length ≤ l.length ∧ ∀ x ∈ drop3 k l, x ∈ l
  | 0, l => ⟨Nat.le_refl _, fun x hx => hx⟩
  | k + 1, [] => ⟨Nat.le_refl _, fun x hx => hx⟩
  | k + 1, y :: ys => by
    by_cases hm : madeB y 3 3 true = true
    · rw [drop3, if_pos hm]
      obtain ⟨h1, h2⟩ := drop3_sub k ys
      exact ⟨by simp; omega, fun x hx => List.mem_cons_of_mem _ (h2 x hx)⟩
    · rw [drop3, if_neg hm]
      exact ⟨Nat.le_refl _, fun x hx => hx⟩
theorem langR_both {l r : List ByteArray} (h : langR l = some r) : r.length ≤ l.length ∧ ∀ x ∈ r, x ∈ l := by
  cases l with
  | nil => cases h
  | cons y ys =>
    by_cases hm : madeB y 2 8 true = true
    · rw [langR, if_pos hm] at h
      have h := Option.some.inj h
      subst h
      split
      · exact ⟨by simp, fun x hx => List.mem_cons_of_mem _ hx⟩
      · obtain ⟨h1, h2⟩ := drop3_sub 3 ys
        exact ⟨by simp; omega, fun x hx => List.mem_cons_of_mem _ (h2 x hx)⟩
    · rw [langR, if_neg hm] at h; cases h
theorem langR_sub {l r : List ByteArray} (h : langR l = some r) : ∀ x ∈ r, x ∈ l := (langR_both h).2
theorem langR_len {l r : List ByteArray} (h : langR l = some r) : r.length ≤ l.length := (langR_both h).1
theorem rd_loadA {w0 w : World} {L : List (Nat × Obj)} {rb n c off size : Nat} {A : Option Addr} {t : List Value} {K : List Value → Prop} (hm : Mem w0 w L) (hi : (rb, rdC A n c t) ∈ L) (ho : off = 1) (hs : t.length = size) (hk : K t) : LoadA w rb off size K := by
  subst ho
  refine ⟨t, hs, fun i hi' => ?_, hk⟩
  have := hm.get hi
  rw [rdC] at this
  rw [cell_heap this, List.getElem?_toArray, Nat.add_comm 1 i, List.getElem?_cons_succ]
theorem tag7 {V E : Value} (h : (∃ A n c, V = .slice A n c) ∧ ∃ A n c, E = .slice A n c) (a0 a1 a2 a3 a6 : ByteArray) : ∀ v ∈ tagC a0 a1 a2 a3 V E a6, v.oneCell' = true := by
  obtain ⟨⟨_, _, _, rfl⟩, ⟨_, _, _, rfl⟩⟩ := h
  intro v hv
  simp [tagC] at hv
  rcases hv with rfl | rfl | rfl | rfl | rfl | rfl | rfl <;> rfl
theorem partsS_data (s : ByteArray) : (partsS s).map (·.data.toList) = partsL s.data.toList := by
  rw [partsS, Go.Lib.splitB_data, ← splitK_dash]
  rfl
theorem parts_size (s : ByteArray) : (∀ x ∈ partsS s, x.size ≤ s.size) ∧ (partsS s).length ≤ s.size + 1 := by
  obtain ⟨h1, h2⟩ := partsL_len s.data.toList
  rw [← partsS_data] at h1 h2
  refine ⟨fun x hx => ?_, by simpa using h1⟩
  have := h2 _ (List.mem_map.2 ⟨x, hx, rfl⟩)
  simpa using this
/-- what names.Tag hands back: some tag, and the error -/
def TagV (l : List ByteArray) (v : Value) : Prop := ∃ c0 c1 c2 c3 c4 c5 c6, (∀ u ∈ [c0, c1, c2, c3, c4, c5, c6], u.oneCell' = true) ∧ v = .tuple #[.agg #[c0, c1, c2, c3, c4, c5, c6], .int .i64 (tagE l)]
theorem tag_any (s : ByteArray) (hs : s.size ≤ 65536) (w : World) (hM : MaxLenAt w) :
    Gv Tryz.prog 148 [.string s] w fun v w' => TagV (partsS s) v ∧ Ext w w' := by
  obtain ⟨p1, p2⟩ := parts_size s
  obtain ⟨l, hl⟩ : ∃ l, l = partsS s := ⟨_, rfl⟩
  rw [← hl] at p1 p2
  refine gv (by kernel_rfl) Tryz.func148 rfl Tryz.ntmps148 rfl ?_; conv => whnf
  refine NewV.mem (Mem.nil w) ?_
  intro rt w1 hm1
  (conv => whnf)
  refine CallV.of (split_any s (by omega) w1 (hM.ext hm1.ext)) ?_
  rintro v w2 ⟨pb, rfl, hS, he2⟩
  rw [← hl] at hS ⊢
  have hm2 := hm1.call he2
  (conv => whnf)
  refine NewV.mem (Mem.nil w2) ?_
  intro rb w3 hm3
  have h0 : RS w2 w3 [rb] rb l (some ⟨pb, 0, none⟩) l.length (.slice none 0 0) (.slice none 0 0) [(rb, rdC (some ⟨pb, 0, none⟩) l.length l.length (tagC ⟨#[]⟩ ⟨#[]⟩ ⟨#[]⟩ ⟨#[]⟩ (.slice none 0 0) (.slice none 0 0) ⟨#[]⟩))] [] :=
    ⟨hm3, ⟨_, _, _, _, _, List.mem_cons_self ..⟩, RowsP.none_, hS, Nat.le_refl _, List.mem_cons_self .., fun g hg => by obtain rfl := List.mem_singleton.1 hg; exact ⟨_, List.mem_cons_self ..⟩, fun x hx => by have := p1 x hx; omega, ⟨⟨_, _, _, rfl⟩, ⟨_, _, _, rfl⟩⟩⟩
  (conv => whnf)
  refine CallV.of (sees_rs privB h0 (fun x w1 _ => by
    refine (private_any x w1).mono ?_
    rintro v w' ⟨rfl, rfl⟩
    exact ⟨rfl, Ext.refl _⟩)) ?_
  rintro v w6 ⟨rfl, h4⟩
  (conv => whnf)
  cases hq : seeB privB l
  case' true =>
    (repeat' (first
      | (refine Obl.mk ⟨by omega, by omega⟩ ?_; conv => whnf)
      | (refine Obl.mk ⟨by omega, by omega, ⟨by omega, by omega⟩⟩ ?_; conv => whnf)
      | ((with_reducible refine Tst.tt ?_); conv => whnf)
      | ((with_reducible refine Tst.ff ?_); conv => whnf)
      | ((with_reducible refine Tst.dec (fun _ => ?_) (fun _ => ?_)) <;> first | (exfalso; omega) | (conv => whnf))
      | ((with_reducible refine Tst.not ?_))
      | (refine Wit.conv ⟨by omega, by omega⟩ ?_; conv => whnf)
      | ((with_reducible refine IdxV.nat (by omega) ?_); conv => whnf)
      | ((with_reducible refine SameW.mk rfl ?_); conv => whnf)
      | (refine LoadV.mem (i := 0) (by assumption) rfl rfl ?_; conv => whnf)
      | (refine LoadV.mem (i := 1) (by assumption) rfl rfl ?_; conv => whnf)
      | (refine LoadV.mem (i := 2) (by assumption) rfl rfl ?_; conv => whnf)
      | ((with_reducible refine Tst.beqT ?_))
      | ((with_reducible refine Tst.beqF ?_))
      | (refine Tst.yes rfl ?_; conv => whnf)
      | (refine Tst.no rfl ?_; conv => whnf)))
    obtain ⟨l1, A1, c1, V1, E1, L1, e1, g1, d1⟩ : ∃ l1 A1 c1 V1 E1 L1, tagR l = some l1 ∧ RS w2 w6 [rb] rb l1 A1 c1 V1 E1 L1 [] ∧ l1.length ≤ 1000000 := ⟨l, _, _, _, _, _, by rw [tagR, if_pos hq], h4, by omega⟩
    clear hq h4 h0
  case' false =>
    have eT : tagR l = (langR l).bind restR := by rw [tagR, if_neg (by rw [hq]; simp)]
    (repeat' (first
      | (refine Obl.mk ⟨by omega, by omega⟩ ?_; conv => whnf)
      | (refine Obl.mk ⟨by omega, by omega, ⟨by omega, by omega⟩⟩ ?_; conv => whnf)
      | ((with_reducible refine Tst.tt ?_); conv => whnf)
      | ((with_reducible refine Tst.ff ?_); conv => whnf)
      | ((with_reducible refine Tst.dec (fun _ => ?_) (fun _ => ?_)) <;> first | (exfalso; omega) | (conv => whnf))
      | ((with_reducible refine Tst.not ?_))
      | (refine Wit.conv ⟨by omega, by omega⟩ ?_; conv => whnf)
      | ((with_reducible refine IdxV.nat (by omega) ?_); conv => whnf)
      | ((with_reducible refine SameW.mk rfl ?_); conv => whnf)
      | (refine LoadV.mem (i := 0) (by assumption) rfl rfl ?_; conv => whnf)
      | (refine LoadV.mem (i := 1) (by assumption) rfl rfl ?_; conv => whnf)
      | (refine LoadV.mem (i := 2) (by assumption) rfl rfl ?_; conv => whnf)
      | ((with_reducible refine Tst.beqT ?_))
      | ((with_reducible refine Tst.beqF ?_))
      | (refine Tst.yes rfl ?_; conv => whnf)
      | (refine Tst.no rfl ?_; conv => whnf)))
    refine CallV.of (language_any rb 0 l _ _ ⟨#[]⟩ ⟨#[]⟩ ⟨#[]⟩ ⟨#[]⟩ _ _ w2 w6 _ h4.mem rfl hS (Nat.le_refl _) h4.small) ?_
    rintro v w5 (⟨e2, rfl, hx5⟩ | ⟨l2, e2, rfl, A2, c2, b0, b1, hS2, hc2, hm5⟩)
    · rw [e2] at eT
      (conv => whnf)
      (repeat' (first
      | (refine Obl.mk ⟨by omega, by omega⟩ ?_; conv => whnf)
      | (refine Obl.mk ⟨by omega, by omega, ⟨by omega, by omega⟩⟩ ?_; conv => whnf)
      | ((with_reducible refine Tst.tt ?_); conv => whnf)
      | ((with_reducible refine Tst.ff ?_); conv => whnf)
      | ((with_reducible refine Tst.dec (fun _ => ?_) (fun _ => ?_)) <;> first | (exfalso; omega) | (conv => whnf))
      | ((with_reducible refine Tst.not ?_))
      | (refine Wit.conv ⟨by omega, by omega⟩ ?_; conv => whnf)
      | ((with_reducible refine IdxV.nat (by omega) ?_); conv => whnf)
      | ((with_reducible refine SameW.mk rfl ?_); conv => whnf)
      | (refine LoadV.mem (i := 0) (by assumption) rfl rfl ?_; conv => whnf)
      | (refine LoadV.mem (i := 1) (by assumption) rfl rfl ?_; conv => whnf)
      | (refine LoadV.mem (i := 2) (by assumption) rfl rfl ?_; conv => whnf)
      | ((with_reducible refine Tst.beqT ?_))
      | ((with_reducible refine Tst.beqF ?_))
      | (refine Tst.yes rfl ?_; conv => whnf)
      | (refine Tst.no rfl ?_; conv => whnf)))
      refine StoreA.mem (hm2.call hx5) (i := 0) rfl (Nat.le_refl 7) zero7 ?_
      intro w9 hm9
      (conv => whnf)
      refine res_any (R := fun v w' => TagV l v ∧ Ext w w') ?_
      (conv => whnf)
      refine LoadA.mem hm9 (i := 0) rfl rfl ?_
      (conv => whnf)
      exact ⟨⟨_, _, _, _, _, _, _, zero7, by rw [tagE_no (fun h => by obtain ⟨l1, h1, _⟩ := h; rw [eT] at h1; cases h1)]; rfl⟩, hm9.ext⟩
    rw [e2] at eT
    have h5 : RS w2 w5 [rb] rb l2 A2 c2 (.slice none 0 0) (.slice none 0 0) [(rb, rdC A2 l2.length c2 (tagC b0 b1 ⟨#[]⟩ ⟨#[]⟩ (.slice none 0 0) (.slice none 0 0) ⟨#[]⟩))] [] :=
      ⟨hm5, ⟨_, _, _, _, _, List.mem_cons_self ..⟩, RowsP.none_, hS2, hc2, List.mem_cons_self .., fun g hg => by obtain rfl := List.mem_singleton.1 hg; exact ⟨_, List.mem_cons_self ..⟩, fun x hx => by have := p1 x (langR_sub e2 x hx); omega, ⟨⟨_, _, _, rfl⟩, ⟨_, _, _, rfl⟩⟩⟩
    (conv => whnf)
    (repeat' (first
      | (refine Obl.mk ⟨by omega, by omega⟩ ?_; conv => whnf)
      | (refine Obl.mk ⟨by omega, by omega, ⟨by omega, by omega⟩⟩ ?_; conv => whnf)
      | ((with_reducible refine Tst.tt ?_); conv => whnf)
      | ((with_reducible refine Tst.ff ?_); conv => whnf)
      | ((with_reducible refine Tst.dec (fun _ => ?_) (fun _ => ?_)) <;> first | (exfalso; omega) | (conv => whnf))
      | ((with_reducible refine Tst.not ?_))
      | (refine Wit.conv ⟨by omega, by omega⟩ ?_; conv => whnf)
      | ((with_reducible refine IdxV.nat (by omega) ?_); conv => whnf)
      | ((with_reducible refine SameW.mk rfl ?_); conv => whnf)
      | (refine LoadV.mem (i := 0) (by assumption) rfl rfl ?_; conv => whnf)
      | (refine LoadV.mem (i := 1) (by assumption) rfl rfl ?_; conv => whnf)
      | (refine LoadV.mem (i := 2) (by assumption) rfl rfl ?_; conv => whnf)
      | ((with_reducible refine Tst.beqT ?_))
      | ((with_reducible refine Tst.beqF ?_))
      | (refine Tst.yes rfl ?_; conv => whnf)
      | (refine Tst.no rfl ?_; conv => whnf)))
    refine CallV.of (rest_any rb [rb] l2 A2 c2 w2 w5 _ h5 (by have := langR_len e2; omega)) ?_
    rintro v w6 (⟨e3, rfl, hx6⟩ | ⟨l3, e3, rfl, A3, c3, V3, E3, L3, h6, hl3, _⟩)
    · have eT : tagR l = none := by rw [eT]; exact e3
      (conv => whnf)
      (repeat' (first
      | (refine Obl.mk ⟨by omega, by omega⟩ ?_; conv => whnf)
      | (refine Obl.mk ⟨by omega, by omega, ⟨by omega, by omega⟩⟩ ?_; conv => whnf)
      | ((with_reducible refine Tst.tt ?_); conv => whnf)
      | ((with_reducible refine Tst.ff ?_); conv => whnf)
      | ((with_reducible refine Tst.dec (fun _ => ?_) (fun _ => ?_)) <;> first | (exfalso; omega) | (conv => whnf))
      | ((with_reducible refine Tst.not ?_))
      | (refine Wit.conv ⟨by omega, by omega⟩ ?_; conv => whnf)
      | ((with_reducible refine IdxV.nat (by omega) ?_); conv => whnf)
      | ((with_reducible refine SameW.mk rfl ?_); conv => whnf)
      | (refine LoadV.mem (i := 0) (by assumption) rfl rfl ?_; conv => whnf)
      | (refine LoadV.mem (i := 1) (by assumption) rfl rfl ?_; conv => whnf)
      | (refine LoadV.mem (i := 2) (by assumption) rfl rfl ?_; conv => whnf)
      | ((with_reducible refine Tst.beqT ?_))
      | ((with_reducible refine Tst.beqF ?_))
      | (refine Tst.yes rfl ?_; conv => whnf)
      | (refine Tst.no rfl ?_; conv => whnf)))
      refine StoreA.mem (hm2.call hx6) (i := 0) rfl (Nat.le_refl 7) zero7 ?_
      intro w9 hm9
      (conv => whnf)
      refine res_any (R := fun v w' => TagV l v ∧ Ext w w') ?_
      (conv => whnf)
      refine LoadA.mem hm9 (i := 0) rfl rfl ?_
      (conv => whnf)
      exact ⟨⟨_, _, _, _, _, _, _, zero7, by rw [tagE_no (fun h => by obtain ⟨l1, h1, _⟩ := h; rw [eT] at h1; cases h1)]; rfl⟩, hm9.ext⟩
    obtain ⟨l1, A1, c1, V1, E1, L1, e1, g1, d1⟩ : ∃ l1 A1 c1 V1 E1 L1, tagR l = some l1 ∧ RS w2 w6 [rb] rb l1 A1 c1 V1 E1 L1 [] ∧ l1.length ≤ 1000000 := ⟨l3, _, _, _, _, _, by rw [eT]; exact e3, h6, by have := langR_len e2; omega⟩
    clear hq h4 h0 eT e2 h5 e3 h6
    (conv => whnf)
    (repeat' (first
      | (refine Obl.mk ⟨by omega, by omega⟩ ?_; conv => whnf)
      | (refine Obl.mk ⟨by omega, by omega, ⟨by omega, by omega⟩⟩ ?_; conv => whnf)
      | ((with_reducible refine Tst.tt ?_); conv => whnf)
      | ((with_reducible refine Tst.ff ?_); conv => whnf)
      | ((with_reducible refine Tst.dec (fun _ => ?_) (fun _ => ?_)) <;> first | (exfalso; omega) | (conv => whnf))
      | ((with_reducible refine Tst.not ?_))
      | (refine Wit.conv ⟨by omega, by omega⟩ ?_; conv => whnf)
      | ((with_reducible refine IdxV.nat (by omega) ?_); conv => whnf)
      | ((with_reducible refine SameW.mk rfl ?_); conv => whnf)
      | (refine LoadV.mem (i := 0) (by assumption) rfl rfl ?_; conv => whnf)
      | (refine LoadV.mem (i := 1) (by assumption) rfl rfl ?_; conv => whnf)
      | (refine LoadV.mem (i := 2) (by assumption) rfl rfl ?_; conv => whnf)
      | ((with_reducible refine Tst.beqT ?_))
      | ((with_reducible refine Tst.beqF ?_))
      | (refine Tst.yes rfl ?_; conv => whnf)
      | (refine Tst.no rfl ?_; conv => whnf)))
  all_goals
    refine CallV.of (sees_rs privB g1 (fun x w1 _ => by
      refine (private_any x w1).mono ?_
      rintro v w' ⟨rfl, rfl⟩
      exact ⟨rfl, Ext.refl _⟩)) ?_
    rintro v w7 ⟨rfl, g2⟩
    cases hq2 : seeB privB l1
    · have hend : endOk l1 ↔ l1 = [] := by rw [endOk, if_neg (by rw [hq2]; simp)]
      (conv => whnf)
      (repeat' (first
      | (refine Obl.mk ⟨by omega, by omega⟩ ?_; conv => whnf)
      | (refine Obl.mk ⟨by omega, by omega, ⟨by omega, by omega⟩⟩ ?_; conv => whnf)
      | ((with_reducible refine Tst.tt ?_); conv => whnf)
      | ((with_reducible refine Tst.ff ?_); conv => whnf)
      | ((with_reducible refine Tst.dec (fun _ => ?_) (fun _ => ?_)) <;> first | (exfalso; omega) | (conv => whnf))
      | ((with_reducible refine Tst.not ?_))
      | (refine Wit.conv ⟨by omega, by omega⟩ ?_; conv => whnf)
      | ((with_reducible refine IdxV.nat (by omega) ?_); conv => whnf)
      | ((with_reducible refine SameW.mk rfl ?_); conv => whnf)
      | (refine LoadV.mem (i := 0) (by assumption) rfl rfl ?_; conv => whnf)
      | (refine LoadV.mem (i := 1) (by assumption) rfl rfl ?_; conv => whnf)
      | (refine LoadV.mem (i := 2) (by assumption) rfl rfl ?_; conv => whnf)
      | ((with_reducible refine Tst.beqT ?_))
      | ((with_reducible refine Tst.beqF ?_))
      | (refine Tst.yes rfl ?_; conv => whnf)
      | (refine Tst.no rfl ?_; conv => whnf)))
      obtain ⟨a0, a1, a2, a3, a6, hrd⟩ := id g2.rd
      refine LoadV.of (v := .slice A1 l1.length c1) (by have := g2.mem.get hrd; rw [rdC] at this; rw [cell_heap this]; rfl) ?_
      (conv => whnf)
      (repeat' (first
      | (refine Obl.mk ⟨by omega, by omega⟩ ?_; conv => whnf)
      | (refine Obl.mk ⟨by omega, by omega, ⟨by omega, by omega⟩⟩ ?_; conv => whnf)
      | ((with_reducible refine Tst.tt ?_); conv => whnf)
      | ((with_reducible refine Tst.ff ?_); conv => whnf)
      | ((with_reducible refine Tst.dec (fun _ => ?_) (fun _ => ?_)) <;> first | (exfalso; omega) | (conv => whnf))
      | ((with_reducible refine Tst.not ?_))
      | (refine Wit.conv ⟨by omega, by omega⟩ ?_; conv => whnf)
      | ((with_reducible refine IdxV.nat (by omega) ?_); conv => whnf)
      | ((with_reducible refine SameW.mk rfl ?_); conv => whnf)
      | (refine LoadV.mem (i := 0) (by assumption) rfl rfl ?_; conv => whnf)
      | (refine LoadV.mem (i := 1) (by assumption) rfl rfl ?_; conv => whnf)
      | (refine LoadV.mem (i := 2) (by assumption) rfl rfl ?_; conv => whnf)
      | ((with_reducible refine Tst.beqT ?_))
      | ((with_reducible refine Tst.beqF ?_))
      | (refine Tst.yes rfl ?_; conv => whnf)
      | (refine Tst.no rfl ?_; conv => whnf)))
      · skip
        refine StoreA.mem (hm2.call g2.mem.ext) (i := 0) rfl (Nat.le_refl 7) zero7 ?_
        intro w9 hm9
        (conv => whnf)
        refine res_any (R := fun v w' => TagV l v ∧ Ext w w') ?_
        (conv => whnf)
        refine LoadA.mem hm9 (i := 0) rfl rfl ?_
        (conv => whnf)
        exact ⟨⟨_, _, _, _, _, _, _, zero7, by rw [tagE_no (fun h => by obtain ⟨l2, h1, h2⟩ := h; rw [e1] at h1; cases h1; have e := hend.1 h2; have : l1.length = 0 := (by rw [e]; rfl); omega)]; rfl⟩, hm9.ext⟩
      · skip
        obtain ⟨⟨VA, vn, vc, rfl⟩, ⟨EA, en, ec, rfl⟩⟩ := id g2.vs
        obtain ⟨z0, z1, z2, z3, z6, hrd⟩ := id g2.rd
        refine rd_loadA g2.mem hrd rfl rfl ?_
        (conv => whnf)
        refine StoreA.mem (hm2.call g2.mem.ext) (i := 0) rfl (Nat.le_refl 7) (tag7 g2.vs _ _ _ _ _) ?_
        intro w9 hm9
        (conv => whnf)
        refine res_any (R := fun v w' => TagV l v ∧ Ext w w') ?_
        (conv => whnf)
        refine LoadA.mem hm9 (i := 0) rfl rfl ?_
        (conv => whnf)
        exact ⟨⟨_, _, _, _, _, _, _, tag7 ⟨⟨_, _, _, rfl⟩, ⟨_, _, _, rfl⟩⟩ _ _ _ _ _, by rw [tagE_ok ⟨l1, e1, hend.2 (List.length_eq_zero_iff.1 (by omega))⟩]; rfl⟩, hm9.ext⟩
    · obtain ⟨x, xs, rfl⟩ : ∃ x xs, l1 = x :: xs := by
        cases l1 with
        | nil => cases hq2
        | cons x xs => exact ⟨x, xs, rfl⟩
      have hend : endOk (x :: xs) ↔ xs ≠ [] ∧ xs.all privQ = true := by rw [endOk, if_pos hq2]; rfl
      (conv => whnf)
      (repeat' (first
      | (refine Obl.mk ⟨by omega, by omega⟩ ?_; conv => whnf)
      | (refine Obl.mk ⟨by omega, by omega, ⟨by omega, by omega⟩⟩ ?_; conv => whnf)
      | ((with_reducible refine Tst.tt ?_); conv => whnf)
      | ((with_reducible refine Tst.ff ?_); conv => whnf)
      | ((with_reducible refine Tst.dec (fun _ => ?_) (fun _ => ?_)) <;> first | (exfalso; omega) | (conv => whnf))
      | ((with_reducible refine Tst.not ?_))
      | (refine Wit.conv ⟨by omega, by omega⟩ ?_; conv => whnf)
      | ((with_reducible refine IdxV.nat (by omega) ?_); conv => whnf)
      | ((with_reducible refine SameW.mk rfl ?_); conv => whnf)
      | (refine LoadV.mem (i := 0) (by assumption) rfl rfl ?_; conv => whnf)
      | (refine LoadV.mem (i := 1) (by assumption) rfl rfl ?_; conv => whnf)
      | (refine LoadV.mem (i := 2) (by assumption) rfl rfl ?_; conv => whnf)
      | ((with_reducible refine Tst.beqT ?_))
      | ((with_reducible refine Tst.beqF ?_))
      | (refine Tst.yes rfl ?_; conv => whnf)
      | (refine Tst.no rfl ?_; conv => whnf)))
      refine CallV.of (next_rs g2) ?_
      rintro v w8 ⟨rfl, A8, c8, L8, g8, _⟩
      (conv => whnf)
      obtain ⟨a0, a1, a2, a3, a6, hrd⟩ := id g8.rd
      refine CallV.of (rdm_tail (least := 1) g8.mem hrd g8.sl g8.hc g8.small (by simp at d1; omega)) ?_
      rintro v w9 ⟨pre, rest', sT, hP, hse, rfl, A9, c9, L9, hS9, hc9, hr9⟩
      have g9 := g8.step hr9 ⟨_, _, _, _, _, rfl⟩ hS9 hc9 (fun y hy => by rw [hP.eq]; exact List.mem_append_right _ hy) g8.vs
      (conv => whnf)
      have hall : xs ≠ [] ∧ xs.all privQ = true ↔ pre ≠ [] ∧ rest' = [] := by
        have hPa : pre.all privQ = true := hP.all
        rw [hP.eq, List.all_append, hPa, Bool.true_and]
        constructor
        · rintro ⟨n1, n2⟩
          have hr : rest' = [] := by
            cases rest' with
            | nil => rfl
            | cons y ys =>
              have : privQ y = false := hse
              simp [this] at n2
          exact ⟨fun e => n1 (by rw [e, hr]; rfl), hr⟩
        · rintro ⟨n1, rfl⟩
          exact ⟨by simpa using n1, rfl⟩
      rw [hall] at hend
      have hxx := g2.small x (List.mem_cons_self ..)
      have hsT := hP.size
      have hpl : pre.length ≤ 1000000 := by have := congrArg List.length hP.eq; simp at this d1; omega
      by_cases hp : pre = []
      · rw [decide_eq_false (by simp [hp])]
        (conv => whnf)
        (repeat' (first
      | (refine Obl.mk ⟨by omega, by omega⟩ ?_; conv => whnf)
      | (refine Obl.mk ⟨by omega, by omega, ⟨by omega, by omega⟩⟩ ?_; conv => whnf)
      | ((with_reducible refine Tst.tt ?_); conv => whnf)
      | ((with_reducible refine Tst.ff ?_); conv => whnf)
      | ((with_reducible refine Tst.dec (fun _ => ?_) (fun _ => ?_)) <;> first | (exfalso; omega) | (conv => whnf))
      | ((with_reducible refine Tst.not ?_))
      | (refine Wit.conv ⟨by omega, by omega⟩ ?_; conv => whnf)
      | ((with_reducible refine IdxV.nat (by omega) ?_); conv => whnf)
      | ((with_reducible refine SameW.mk rfl ?_); conv => whnf)
      | (refine LoadV.mem (i := 0) (by assumption) rfl rfl ?_; conv => whnf)
      | (refine LoadV.mem (i := 1) (by assumption) rfl rfl ?_; conv => whnf)
      | (refine LoadV.mem (i := 2) (by assumption) rfl rfl ?_; conv => whnf)
      | ((with_reducible refine Tst.beqT ?_))
      | ((with_reducible refine Tst.beqF ?_))
      | (refine Tst.yes rfl ?_; conv => whnf)
      | (refine Tst.no rfl ?_; conv => whnf)))
        refine StoreA.mem (hm2.call g9.mem.ext) (i := 0) rfl (Nat.le_refl 7) zero7 ?_
        intro w9 hm9
        (conv => whnf)
        refine res_any (R := fun v w' => TagV l v ∧ Ext w w') ?_
        (conv => whnf)
        refine LoadA.mem hm9 (i := 0) rfl rfl ?_
        (conv => whnf)
        exact ⟨⟨_, _, _, _, _, _, _, zero7, by rw [tagE_no (fun h => by obtain ⟨l2, h1, h2⟩ := h; rw [e1] at h1; cases h1; exact (hend.1 h2).1 hp)]; rfl⟩, hm9.ext⟩
      · rw [decide_eq_true (by simpa using hp)]
        (conv => whnf)
        (repeat' (first
      | (refine Obl.mk ⟨by omega, by omega⟩ ?_; conv => whnf)
      | (refine Obl.mk ⟨by omega, by omega, ⟨by omega, by omega⟩⟩ ?_; conv => whnf)
      | ((with_reducible refine Tst.tt ?_); conv => whnf)
      | ((with_reducible refine Tst.ff ?_); conv => whnf)
      | ((with_reducible refine Tst.dec (fun _ => ?_) (fun _ => ?_)) <;> first | (exfalso; omega) | (conv => whnf))
      | ((with_reducible refine Tst.not ?_))
      | (refine Wit.conv ⟨by omega, by omega⟩ ?_; conv => whnf)
      | ((with_reducible refine IdxV.nat (by omega) ?_); conv => whnf)
      | ((with_reducible refine SameW.mk rfl ?_); conv => whnf)
      | (refine LoadV.mem (i := 0) (by assumption) rfl rfl ?_; conv => whnf)
      | (refine LoadV.mem (i := 1) (by assumption) rfl rfl ?_; conv => whnf)
      | (refine LoadV.mem (i := 2) (by assumption) rfl rfl ?_; conv => whnf)
      | ((with_reducible refine Tst.beqT ?_))
      | ((with_reducible refine Tst.beqF ?_))
      | (refine Tst.yes rfl ?_; conv => whnf)
      | (refine Tst.no rfl ?_; conv => whnf)))
        refine ⟨by omega, ?_⟩
        (conv => whnf)
        obtain ⟨a0, a1, a2, a3, a6, hrd⟩ := id g9.rd
        refine rdm_store g9.mem hrd 6 rfl (show 6 < 7 by decide) rfl ?_
        intro w10 L10 hr10
        have g10 := g9.step hr10 ⟨_, _, _, _, _, rfl⟩ hS9 hc9 (fun y hy => hy) g9.vs
        obtain ⟨a0, a1, a2, a3, a6, hrd⟩ := id g10.rd
        (conv => whnf)
        refine LoadV.of (v := .slice A9 rest'.length c9) (by have := g10.mem.get hrd; rw [rdC] at this; rw [cell_heap this]; rfl) ?_
        (conv => whnf)
        (repeat' (first
      | (refine Obl.mk ⟨by omega, by omega⟩ ?_; conv => whnf)
      | (refine Obl.mk ⟨by omega, by omega, ⟨by omega, by omega⟩⟩ ?_; conv => whnf)
      | ((with_reducible refine Tst.tt ?_); conv => whnf)
      | ((with_reducible refine Tst.ff ?_); conv => whnf)
      | ((with_reducible refine Tst.dec (fun _ => ?_) (fun _ => ?_)) <;> first | (exfalso; omega) | (conv => whnf))
      | ((with_reducible refine Tst.not ?_))
      | (refine Wit.conv ⟨by omega, by omega⟩ ?_; conv => whnf)
      | ((with_reducible refine IdxV.nat (by omega) ?_); conv => whnf)
      | ((with_reducible refine SameW.mk rfl ?_); conv => whnf)
      | (refine LoadV.mem (i := 0) (by assumption) rfl rfl ?_; conv => whnf)
      | (refine LoadV.mem (i := 1) (by assumption) rfl rfl ?_; conv => whnf)
      | (refine LoadV.mem (i := 2) (by assumption) rfl rfl ?_; conv => whnf)
      | ((with_reducible refine Tst.beqT ?_))
      | ((with_reducible refine Tst.beqF ?_))
      | (refine Tst.yes rfl ?_; conv => whnf)
      | (refine Tst.no rfl ?_; conv => whnf)))
        · skip
          refine StoreA.mem (hm2.call g10.mem.ext) (i := 0) rfl (Nat.le_refl 7) zero7 ?_
          intro w9 hm9
          (conv => whnf)
          refine res_any (R := fun v w' => TagV l v ∧ Ext w w') ?_
          (conv => whnf)
          refine LoadA.mem hm9 (i := 0) rfl rfl ?_
          (conv => whnf)
          exact ⟨⟨_, _, _, _, _, _, _, zero7, by rw [tagE_no (fun h => by obtain ⟨l2, h1, h2⟩ := h; rw [e1] at h1; cases h1; have e := (hend.1 h2).2; have : rest'.length = 0 := (by rw [e]; rfl); omega)]; rfl⟩, hm9.ext⟩
        · skip
          obtain ⟨⟨VA, vn, vc, rfl⟩, ⟨EA, en, ec, rfl⟩⟩ := id g10.vs
          obtain ⟨z0, z1, z2, z3, z6, hrd⟩ := id g10.rd
          refine rd_loadA g10.mem hrd rfl rfl ?_
          (conv => whnf)
          refine StoreA.mem (hm2.call g10.mem.ext) (i := 0) rfl (Nat.le_refl 7) (tag7 g10.vs _ _ _ _ _) ?_
          intro w9 hm9
          (conv => whnf)
          refine res_any (R := fun v w' => TagV l v ∧ Ext w w') ?_
          (conv => whnf)
          refine LoadA.mem hm9 (i := 0) rfl rfl ?_
          (conv => whnf)
          exact ⟨⟨_, _, _, _, _, _, _, tag7 ⟨⟨_, _, _, rfl⟩, ⟨_, _, _, rfl⟩⟩ _ _ _ _ _, by rw [tagE_ok ⟨_, e1, hend.2 ⟨hp, List.length_eq_zero_iff.1 (by omega)⟩⟩]; rfl⟩, hm9.ext⟩
end Go.Proofs.YtajgbepghniciaaGreatDoor
namespace Go.Proofs.YtajgbepghniciaaGreatDoor
open Go.RowKit V
set_option maxRecDepth 100000

namespace V
/-- one cell more, the row's length within what a process reaches -/
theorem AppV.one {P : Program} {w0 w : World} {A : Option Addr} {c n nb : Nat} {xs : List Value} {L : List (Nat × Obj)} {t ty e : TypeId} {i : TypeInfo} {z x : Value} {K : Value → World → Prop}
    (ht : P.underlying t = some (.slice e)) (hi : P.info? e = some i) (hz : i.zero = some z) (hsize : i.size = 1) (hzs : z.cells.size = 1) (hby : i.bytes ≤ 16)
    (h : Rw w0 w (.slice A n c) e 1 n xs ((nb, .cells #[x] e (0, 0)) :: L)) (hx : x.oneCell' = true) (hn : n + 1 ≤ 8000000000000)
    (hk : ∀ A' c' w', Rw w0 w' (.slice A' (n + 1) c') e 1 (n + 1) (xs ++ [x]) L → K (.slice A' (n + 1) c') w') : AppV P #[t, t] ty (.slice A n c) (.slice (some ⟨nb, 0, none⟩) 1 1) w K := by
  refine AppV.rw (news := [x]) ht hi hz hsize hzs (by decide) h rfl (fun _ => ⟨nb, 0, rfl, fun k v hv => ?_⟩) (fun u hu => by simp at hu; rw [hu]; exact hx) ?_ (by omega) (fun A' c' w' h' => hk A' c' w' h'.tail)
  · rw [cell_heap (h.mem.get (List.mem_cons_self ..)), Nat.zero_add]
    simpa using hv
  · have : (n + 1) * i.bytes ≤ 8000000000000 * 16 := Nat.mul_le_mul hn hby
    omega
theorem Rw.ints {w0 w : World} {A : Option Addr} {c : Nat} {e : TypeId} {zs : List Int} {L : List (Nat × Obj)} (h : Rw w0 w (.slice A zs.length c) e 1 zs.length (zs.map (Value.int .i64)) L) : SlAt Go.Proofs.YtajgbepghniciaaGreatDoor.V.encI 1 w A zs := by
  refine ⟨fun hne => ?_⟩
  obtain ⟨g, rfl, _, _, _, hc⟩ := h.cells (List.length_pos_iff.2 hne)
  refine ⟨g, 0, rfl, fun j x hx k v hv => ?_⟩
  cases k with
  | succ k => simp [Go.Proofs.YtajgbepghniciaaGreatDoor.V.encI] at hv
  | zero =>
    simp only [Go.Proofs.YtajgbepghniciaaGreatDoor.V.encI, List.getElem?_cons_zero, Option.some.injEq] at hv
    subst hv
    have := hc j (.int .i64 x) (by rw [List.getElem?_map, hx]; rfl)
    simpa using this
theorem oneI (l : List Int) : ∀ v ∈ l.map (Value.int .i64), v.oneCell' = true := by
  intro v hv
  obtain ⟨x, _, rfl⟩ := List.mem_map.1 hv
  rfl
end V
def rP : List (Int × Int) := (65, 90) :: (97, 122) :: basesP
def rbI : List Int := rP.flatMap fun x => [x.1, x.2]
theorem rb_lo : ∀ i (h : i < rP.length), (rbI.map (Value.int .i64))[i * 2]? = some (.int .i64 rP[i].1) ∧ (rbI.map (Value.int .i64))[i * 2 + 1]? = some (.int .i64 rP[i].2) := by
  intro i h
  have h : i < 14 := h
  obtain rfl | rfl | rfl | rfl | rfl | rfl | rfl | rfl | rfl | rfl | rfl | rfl | rfl | rfl : i = 0 ∨ i = 1 ∨ i = 2 ∨ i = 3 ∨ i = 4 ∨ i = 5 ∨ i = 6 ∨ i = 7 ∨ i = 8 ∨ i = 9 ∨ i = 10 ∨ i = 11 ∨ i = 12 ∨ i = 13 := by omega
  all_goals exact ⟨rfl, rfl⟩
theorem rP_base (r : Int) : rP.any (inP r) = baseB r := by
  show (inP r (65, 90) || (inP r (97, 122) || basesP.any (inP r))) = baseB r
  have : letN r = (inP r (65, 90) || inP r (97, 122)) := by
    rw [Bool.eq_iff_iff]; simp [letN, inP]; omega
  rw [baseB, this, Bool.or_assoc]
theorem V.buildV_arr {P : Program} {t e : TypeId} {n : Nat} {i : TypeInfo} {z : Value} {parts : List (Nat × Value)} {l : List Value} {K : Value → Prop} (hi : P.info? t = some i) (hz : i.zero = some z) (hu : P.underlying t = some (.array n e)) (hT : hasT P e = true)
    (hf : fillL (fun k => some (k * tsz P e, tsz P e)) z.cells.toList parts = some l) (hk : K (.agg l.toArray)) : buildV P t parts K := by
  unfold buildV
  simp only [hi, hz, hu, hT, hf, cond_true, forceL_eq]
  exact hk
namespace V
section
variable {P : Program} {n : Nat} {ρ : Nat → Value} {w : World}
theorem vs_seq {a b : Code} {Q : Exit → (Nat → Value) → World → Prop} (h : codeV P n a (seqQ (codeV P n b Q) Q) ρ w) : codeV P n (.seq a b) Q ρ w := h
theorem vs_region {id : Nat} {ops : Array Oper} {Q : Exit → (Nat → Value) → World → Prop} (h : regV P n ops.toList (Q .normal) ops.toList ρ w) : codeV P n (.region id ops false) Q ρ w := h
theorem vs_nil {ops : List Oper} {Q : (Nat → Value) → World → Prop} (h : Q ρ w) : regV P n ops Q [] ρ w := h
theorem vs_cons {ops rest : List Oper} {o : Oper} {Q : (Nat → Value) → World → Prop} (hg : o.guard = none) (h : opV P o ρ w fun v w' => putV n o.dst ρ v fun ρ' => regV P n ops Q rest ρ' w') : regV P n ops Q (o :: rest) ρ w := by
  unfold regV
  rw [hg]
  exact h
theorem vs_normal {K : (Nat → Value) → World → Prop} {Q : Exit → (Nat → Value) → World → Prop} (h : K ρ w) : seqQ K Q .normal ρ w := h
theorem vs_put {d : Nat} {v : Value} {K : (Nat → Value) → Prop} (hd : Nat.blt d n = true) (h : K (upd ρ d v)) : putV n (some d) ρ v K := by
  unfold putV
  simp only [hd, cond_true]
  exact h
theorem vs_alloc {o : Oper} {t : TypeId} {K : Value → World → Prop} (ho : o.op = .alloc t) (h : allocV P t w K) : opV P o ρ w K := by
  unfold opV
  rw [ho]
  exact h
theorem vs_store {o : Oper} {t : TypeId} {x v : Operand} {K : Value → World → Prop} (ho : o.op = .store t x v) (h : storeV P t (ev ρ x) (ev ρ v) w (execOp (ev ρ) o) K) : opV P o ρ w K := by
  unfold opV
  rw [ho]
  exact h
theorem vs_build {t : TypeId} {parts : Array (Nat × Operand)} {K : Value → World → Prop} {dst : Option Tmp} {ty : TypeId} {pos : String} {aft : Array Edge} {gd : Option (Nat × Bool)} (h : buildV P t (evp ρ parts.toList) fun v => K v w) :
    opV P { dst := dst, op := .build t parts, type := ty, pos := pos, after := aft, guard := gd } ρ w K := h
end
end V
theorem arrI : (Tryz.prog.info? 371).isSome = true := by kernel_rfl
theorem arrZ : ((Tryz.prog.info? 371).get arrI).zero = some (.agg (Array.replicate 28 (.int .i64 0))) := by kernel_rfl
theorem arrF (ρ : Nat → Value) : fillL (fun k => some (k * tsz Tryz.prog 3, tsz Tryz.prog 3)) (Value.cells (.agg (Array.replicate 28 (.int .i64 0)))).toList (evp ρ (rbI.zipIdx.map fun x => (x.2, Operand.const (.int .i64 x.1)))) = some (rbI.map (Value.int .i64)) := by kernel_rfl
theorem refBases_any (w : World) : Gv Tryz.prog 266 [] w fun v w' => v = .agg (rbI.map (Value.int .i64)).toArray ∧ Ext w w' := by
  refine gv (by kernel_rfl) Tryz.func266 rfl Tryz.ntmps266 rfl ?_
  refine vs_seq (vs_region ?_)
  refine vs_cons rfl ?_
  refine vs_alloc rfl ?_
  (conv => whnf)
  refine NewV.mem (Mem.nil w) ?_
  intro b w1 hm
  dsimp only
  with_reducible refine vs_put (d := 0) ?_ ?_
  · exact rfl
  try dsimp only
  with_reducible refine vs_nil ?_
  with_reducible refine vs_normal ?_
  with_reducible refine vs_seq ?_
  with_reducible refine vs_region ?_
  with_reducible refine vs_cons ?_ ?_
  · exact rfl
  with_reducible refine vs_build ?_
  with_reducible refine V.buildV_arr (e := 3) (n := 28) (i := (Tryz.prog.info? 371).get arrI) (z := .agg (Array.replicate 28 (.int .i64 0))) (l := rbI.map (Value.int .i64)) ?_ ?_ Tryz.underlying371 ?_ ?_ ?_
  · exact (Option.some_get _).symm
  · exact arrZ
  · kernel_rfl
  · exact arrF _
  dsimp only
  with_reducible refine vs_put (d := 1) ?_ ?_
  · exact rfl
  try dsimp only
  with_reducible refine vs_cons ?_ ?_
  · exact rfl
  refine vs_store (by rfl) ?_
  (conv => whnf)
  refine StoreA.mem (vs := rbI.map (Value.int .i64)) hm (i := 0) rfl (Nat.le_refl 28) (oneI _) ?_
  intro w2 hm2
  replace hm2 : Mem w w2 [(b, .cells (rbI.map (Value.int .i64)).toArray 371 (0, 0))] := hm2
  (conv => whnf)
  refine res_any (R := fun v w' => v = .agg (rbI.map (Value.int .i64)).toArray ∧ Ext w w') ?_
  (conv => whnf)
  refine LoadA.mem hm2 (i := 0) rfl rfl ?_
  rw [forceL_eq]
  exact ⟨rfl, hm2.ext⟩
theorem cellsAt_mem {w0 w : World} {b : Nat} {vs : List Value} {t : TypeId} {fr : Nat × Nat} {L : List (Nat × Obj)} (h : Mem w0 w ((b, .cells vs.toArray t fr) :: L)) : CellsAt w b 0 vs := by
  intro k v hv
  rw [cell_heap (h.get (List.mem_cons_self ..)), Nat.zero_add]
  simpa using hv
theorem refBase_any (r : Int) (w : World) : Gv Tryz.prog 217 [.int .i64 r] w fun v w' => v = .bool (baseB r) ∧ Ext w w' := by
  refine gv (by kernel_rfl) Tryz.func217 rfl Tryz.ntmps217 rfl ?_; conv => whnf
  refine CallV.of (refBases_any w) ?_
  rintro v w1 ⟨rfl, he⟩
  (conv => whnf)
  refine NewV.mem ((Mem.nil w).call he) ?_
  intro b w2 hm
  (conv => whnf)
  refine StoreA.mem (vs := rbI.map (Value.int .i64)) hm (i := 0) rfl (Nat.le_refl 28) (oneI _) ?_
  intro w3 hm
  replace hm : Mem w w3 [(b, .cells (rbI.map (Value.int .i64)).toArray 371 (0, 0))] := hm
  (conv => whnf)
  refine loopV (fun i : Nat => [(0, .int .i64 r), (3, .pointer (some ⟨b, 0, none⟩)), (4, .int .i64 (i * 2 : Nat))]) (fun i w4 => i ≤ 14 ∧ (rP.take i).any (inP r) = false ∧ Mem w w4 [(b, .cells (rbI.map (Value.int .i64)).toArray 371 (0, 0))]) (fun i => 14 - i) 0 ⟨rfl, rfl, rfl, trivial⟩ ⟨by omega, rfl, hm⟩ ?_
  rintro i w4 ρ' ⟨h1, h2, hm⟩
  (conv => whnf)
  (repeat' (first
      | (refine Obl.mk ⟨by omega, by omega⟩ ?_; conv => whnf)
      | (refine Obl.mk ⟨by omega, by omega, ⟨by omega, by omega⟩⟩ ?_; conv => whnf)
      | ((with_reducible refine Tst.tt ?_); conv => whnf)
      | ((with_reducible refine Tst.ff ?_); conv => whnf)
      | ((with_reducible refine Tst.dec (fun _ => ?_) (fun _ => ?_)) <;> first | (exfalso; omega) | (conv => whnf))
      | ((with_reducible refine Tst.not ?_))
      | (refine Wit.conv ⟨by omega, by omega⟩ ?_; conv => whnf)
      | ((with_reducible refine IdxV.nat (by omega) ?_); conv => whnf)
      | ((with_reducible refine SameW.mk rfl ?_); conv => whnf)
      | (refine LoadV.mem (i := 0) (by assumption) rfl rfl ?_; conv => whnf)
      | (refine LoadV.mem (i := 1) (by assumption) rfl rfl ?_; conv => whnf)
      | (refine LoadV.mem (i := 2) (by assumption) rfl rfl ?_; conv => whnf)
      | ((with_reducible refine Tst.beqT ?_))
      | ((with_reducible refine Tst.beqF ?_))
      | (refine Tst.yes rfl ?_; conv => whnf)
      | (refine Tst.no rfl ?_; conv => whnf)))
  · have hi : i < rP.length := show i < 14 by omega
    obtain ⟨b1, b2⟩ := rb_lo i hi
    have hany : ∀ c, inP r rP[i] = c → (rP.take (i + 1)).any (inP r) = c := fun c hc => by
      rw [List.take_succ_eq_append_getElem hi, List.any_append, h2, List.any_cons, hc]; simp
    refine LoadV.of (cellAt1 (cellsAt_mem hm _ _ b1)) ?_
    (conv => whnf)
    (repeat' (first
      | (refine Obl.mk ⟨by omega, by omega⟩ ?_; conv => whnf)
      | (refine Obl.mk ⟨by omega, by omega, ⟨by omega, by omega⟩⟩ ?_; conv => whnf)
      | ((with_reducible refine Tst.tt ?_); conv => whnf)
      | ((with_reducible refine Tst.ff ?_); conv => whnf)
      | ((with_reducible refine Tst.dec (fun _ => ?_) (fun _ => ?_)) <;> first | (exfalso; omega) | (conv => whnf))
      | ((with_reducible refine Tst.not ?_))
      | (refine Wit.conv ⟨by omega, by omega⟩ ?_; conv => whnf)
      | ((with_reducible refine IdxV.nat (by omega) ?_); conv => whnf)
      | ((with_reducible refine SameW.mk rfl ?_); conv => whnf)
      | (refine LoadV.mem (i := 0) (by assumption) rfl rfl ?_; conv => whnf)
      | (refine LoadV.mem (i := 1) (by assumption) rfl rfl ?_; conv => whnf)
      | (refine LoadV.mem (i := 2) (by assumption) rfl rfl ?_; conv => whnf)
      | ((with_reducible refine Tst.beqT ?_))
      | ((with_reducible refine Tst.beqF ?_))
      | (refine Tst.yes rfl ?_; conv => whnf)
      | (refine Tst.no rfl ?_; conv => whnf)))
    · refine ⟨i * 2 + 1, by omega, by omega, ?_⟩
      (conv => whnf)
      (repeat' (first
      | (refine Obl.mk ⟨by omega, by omega⟩ ?_; conv => whnf)
      | (refine Obl.mk ⟨by omega, by omega, ⟨by omega, by omega⟩⟩ ?_; conv => whnf)
      | ((with_reducible refine Tst.tt ?_); conv => whnf)
      | ((with_reducible refine Tst.ff ?_); conv => whnf)
      | ((with_reducible refine Tst.dec (fun _ => ?_) (fun _ => ?_)) <;> first | (exfalso; omega) | (conv => whnf))
      | ((with_reducible refine Tst.not ?_))
      | (refine Wit.conv ⟨by omega, by omega⟩ ?_; conv => whnf)
      | ((with_reducible refine IdxV.nat (by omega) ?_); conv => whnf)
      | ((with_reducible refine SameW.mk rfl ?_); conv => whnf)
      | (refine LoadV.mem (i := 0) (by assumption) rfl rfl ?_; conv => whnf)
      | (refine LoadV.mem (i := 1) (by assumption) rfl rfl ?_; conv => whnf)
      | (refine LoadV.mem (i := 2) (by assumption) rfl rfl ?_; conv => whnf)
      | ((with_reducible refine Tst.beqT ?_))
      | ((with_reducible refine Tst.beqF ?_))
      | (refine Tst.yes rfl ?_; conv => whnf)
      | (refine Tst.no rfl ?_; conv => whnf)))
      refine LoadV.of (cellAt1' (cellsAt_mem hm _ _ b2)) ?_
      (conv => whnf)
      (repeat' (first
      | (refine Obl.mk ⟨by omega, by omega⟩ ?_; conv => whnf)
      | (refine Obl.mk ⟨by omega, by omega, ⟨by omega, by omega⟩⟩ ?_; conv => whnf)
      | ((with_reducible refine Tst.tt ?_); conv => whnf)
      | ((with_reducible refine Tst.ff ?_); conv => whnf)
      | ((with_reducible refine Tst.dec (fun _ => ?_) (fun _ => ?_)) <;> first | (exfalso; omega) | (conv => whnf))
      | ((with_reducible refine Tst.not ?_))
      | (refine Wit.conv ⟨by omega, by omega⟩ ?_; conv => whnf)
      | ((with_reducible refine IdxV.nat (by omega) ?_); conv => whnf)
      | ((with_reducible refine SameW.mk rfl ?_); conv => whnf)
      | (refine LoadV.mem (i := 0) (by assumption) rfl rfl ?_; conv => whnf)
      | (refine LoadV.mem (i := 1) (by assumption) rfl rfl ?_; conv => whnf)
      | (refine LoadV.mem (i := 2) (by assumption) rfl rfl ?_; conv => whnf)
      | ((with_reducible refine Tst.beqT ?_))
      | ((with_reducible refine Tst.beqF ?_))
      | (refine Tst.yes rfl ?_; conv => whnf)
      | (refine Tst.no rfl ?_; conv => whnf)))
      · refine ⟨congrArg Value.bool ?_, hm.ext⟩
        rw [← rP_base]
        exact (List.any_eq_true.2 ⟨rP[i], List.getElem_mem hi, by simp [inP]; omega⟩).symm
      · exact ⟨i + 1, ⟨rfl, rfl, congrArg (Value.int .i64) (by omega), trivial⟩, ⟨by omega, hany _ (by simp [inP]; omega), hm⟩, by omega⟩
    · exact ⟨i + 1, ⟨rfl, rfl, congrArg (Value.int .i64) (by omega), trivial⟩, ⟨by omega, hany _ (by simp [inP]; omega), hm⟩, by omega⟩
  · refine ⟨congrArg Value.bool ?_, hm.ext⟩
    rw [← rP_base, ← h2, List.take_of_length_le (show 14 ≤ i by omega)]
theorem refStarter_any (r : Int) (w : World) : Gv Tryz.prog 152 [.int .i64 r] w fun v w' => v = .bool (startB r) ∧ Ext w w' := by
  refine gv (by kernel_rfl) Tryz.func152 rfl Tryz.ntmps152 rfl ?_; conv => whnf
  refine CallV.of (refBase_any r w) ?_
  rintro v w1 ⟨rfl, he⟩
  (conv => whnf)
  unfold startB
  cases baseB r
  · (repeat' (first
      | (refine Obl.mk ⟨by omega, by omega⟩ ?_; conv => whnf)
      | (refine Obl.mk ⟨by omega, by omega, ⟨by omega, by omega⟩⟩ ?_; conv => whnf)
      | ((with_reducible refine Tst.tt ?_); conv => whnf)
      | ((with_reducible refine Tst.ff ?_); conv => whnf)
      | ((with_reducible refine Tst.dec (fun _ => ?_) (fun _ => ?_)) <;> first | (exfalso; omega) | (conv => whnf))
      | ((with_reducible refine Tst.not ?_))
      | (refine Wit.conv ⟨by omega, by omega⟩ ?_; conv => whnf)
      | ((with_reducible refine IdxV.nat (by omega) ?_); conv => whnf)
      | ((with_reducible refine SameW.mk rfl ?_); conv => whnf)
      | (refine LoadV.mem (i := 0) (by assumption) rfl rfl ?_; conv => whnf)
      | (refine LoadV.mem (i := 1) (by assumption) rfl rfl ?_; conv => whnf)
      | (refine LoadV.mem (i := 2) (by assumption) rfl rfl ?_; conv => whnf)
      | ((with_reducible refine Tst.beqT ?_))
      | ((with_reducible refine Tst.beqF ?_))
      | (refine Tst.yes rfl ?_; conv => whnf)
      | (refine Tst.no rfl ?_; conv => whnf)))
    all_goals (refine ⟨congrArg Value.bool ?_, he⟩; rw [Bool.eq_iff_iff]; simp; try omega)
  · (repeat' (first
      | (refine Obl.mk ⟨by omega, by omega⟩ ?_; conv => whnf)
      | (refine Obl.mk ⟨by omega, by omega, ⟨by omega, by omega⟩⟩ ?_; conv => whnf)
      | ((with_reducible refine Tst.tt ?_); conv => whnf)
      | ((with_reducible refine Tst.ff ?_); conv => whnf)
      | ((with_reducible refine Tst.dec (fun _ => ?_) (fun _ => ?_)) <;> first | (exfalso; omega) | (conv => whnf))
      | ((with_reducible refine Tst.not ?_))
      | (refine Wit.conv ⟨by omega, by omega⟩ ?_; conv => whnf)
      | ((with_reducible refine IdxV.nat (by omega) ?_); conv => whnf)
      | ((with_reducible refine SameW.mk rfl ?_); conv => whnf)
      | (refine LoadV.mem (i := 0) (by assumption) rfl rfl ?_; conv => whnf)
      | (refine LoadV.mem (i := 1) (by assumption) rfl rfl ?_; conv => whnf)
      | (refine LoadV.mem (i := 2) (by assumption) rfl rfl ?_; conv => whnf)
      | ((with_reducible refine Tst.beqT ?_))
      | ((with_reducible refine Tst.beqF ?_))
      | (refine Tst.yes rfl ?_; conv => whnf)
      | (refine Tst.no rfl ?_; conv => whnf)))
    all_goals (refine ⟨congrArg Value.bool ?_, he⟩; rw [Bool.eq_iff_iff]; simp; try omega)
theorem refDigitN_any (r : Int) (w : World) : Gv Tryz.prog 153 [.int .i64 r] w fun v w' => v = .bool (digN r) ∧ w' = w := by
  refine gv (by kernel_rfl) Tryz.func153 rfl Tryz.ntmps153 rfl ?_; conv => whnf
  (repeat' (first
      | (refine Obl.mk ⟨by omega, by omega⟩ ?_; conv => whnf)
      | (refine Obl.mk ⟨by omega, by omega, ⟨by omega, by omega⟩⟩ ?_; conv => whnf)
      | ((with_reducible refine Tst.tt ?_); conv => whnf)
      | ((with_reducible refine Tst.ff ?_); conv => whnf)
      | ((with_reducible refine Tst.dec (fun _ => ?_) (fun _ => ?_)) <;> first | (exfalso; omega) | (conv => whnf))
      | ((with_reducible refine Tst.not ?_))
      | (refine Wit.conv ⟨by omega, by omega⟩ ?_; conv => whnf)
      | ((with_reducible refine IdxV.nat (by omega) ?_); conv => whnf)
      | ((with_reducible refine SameW.mk rfl ?_); conv => whnf)
      | (refine LoadV.mem (i := 0) (by assumption) rfl rfl ?_; conv => whnf)
      | (refine LoadV.mem (i := 1) (by assumption) rfl rfl ?_; conv => whnf)
      | (refine LoadV.mem (i := 2) (by assumption) rfl rfl ?_; conv => whnf)
      | ((with_reducible refine Tst.beqT ?_))
      | ((with_reducible refine Tst.beqF ?_))
      | (refine Tst.yes rfl ?_; conv => whnf)
      | (refine Tst.no rfl ?_; conv => whnf)))
  all_goals (refine ⟨congrArg Value.bool ?_, rfl⟩; rw [Bool.eq_iff_iff]; simp [digN]; try omega)
theorem refFollower_any (r : Int) (w : World) : Gv Tryz.prog 218 [.int .i64 r] w fun v w' => v = .bool (followB r) ∧ Ext w w' := by
  refine gv (by kernel_rfl) Tryz.func218 rfl Tryz.ntmps218 rfl ?_; conv => whnf
  refine CallV.of (refStarter_any r w) ?_
  rintro v w1 ⟨rfl, he⟩
  (conv => whnf)
  unfold followB
  cases startB r
  · (repeat' (first
      | (refine Obl.mk ⟨by omega, by omega⟩ ?_; conv => whnf)
      | (refine Obl.mk ⟨by omega, by omega, ⟨by omega, by omega⟩⟩ ?_; conv => whnf)
      | ((with_reducible refine Tst.tt ?_); conv => whnf)
      | ((with_reducible refine Tst.ff ?_); conv => whnf)
      | ((with_reducible refine Tst.dec (fun _ => ?_) (fun _ => ?_)) <;> first | (exfalso; omega) | (conv => whnf))
      | ((with_reducible refine Tst.not ?_))
      | (refine Wit.conv ⟨by omega, by omega⟩ ?_; conv => whnf)
      | ((with_reducible refine IdxV.nat (by omega) ?_); conv => whnf)
      | ((with_reducible refine SameW.mk rfl ?_); conv => whnf)
      | (refine LoadV.mem (i := 0) (by assumption) rfl rfl ?_; conv => whnf)
      | (refine LoadV.mem (i := 1) (by assumption) rfl rfl ?_; conv => whnf)
      | (refine LoadV.mem (i := 2) (by assumption) rfl rfl ?_; conv => whnf)
      | ((with_reducible refine Tst.beqT ?_))
      | ((with_reducible refine Tst.beqF ?_))
      | (refine Tst.yes rfl ?_; conv => whnf)
      | (refine Tst.no rfl ?_; conv => whnf)))
    all_goals try (
      refine CallV.of (refDigitN_any r w1) ?_
      rintro v w2 ⟨rfl, rfl⟩
      (conv => whnf))
    all_goals cases hd : digN r
    all_goals (repeat' (first
      | (refine Obl.mk ⟨by omega, by omega⟩ ?_; conv => whnf)
      | (refine Obl.mk ⟨by omega, by omega, ⟨by omega, by omega⟩⟩ ?_; conv => whnf)
      | ((with_reducible refine Tst.tt ?_); conv => whnf)
      | ((with_reducible refine Tst.ff ?_); conv => whnf)
      | ((with_reducible refine Tst.dec (fun _ => ?_) (fun _ => ?_)) <;> first | (exfalso; omega) | (conv => whnf))
      | ((with_reducible refine Tst.not ?_))
      | (refine Wit.conv ⟨by omega, by omega⟩ ?_; conv => whnf)
      | ((with_reducible refine IdxV.nat (by omega) ?_); conv => whnf)
      | ((with_reducible refine SameW.mk rfl ?_); conv => whnf)
      | (refine LoadV.mem (i := 0) (by assumption) rfl rfl ?_; conv => whnf)
      | (refine LoadV.mem (i := 1) (by assumption) rfl rfl ?_; conv => whnf)
      | (refine LoadV.mem (i := 2) (by assumption) rfl rfl ?_; conv => whnf)
      | ((with_reducible refine Tst.beqT ?_))
      | ((with_reducible refine Tst.beqF ?_))
      | (refine Tst.yes rfl ?_; conv => whnf)
      | (refine Tst.no rfl ?_; conv => whnf)))
    all_goals (refine ⟨congrArg Value.bool ?_, he⟩; rw [Bool.eq_iff_iff]; simp; try omega)
  · (repeat' (first
      | (refine Obl.mk ⟨by omega, by omega⟩ ?_; conv => whnf)
      | (refine Obl.mk ⟨by omega, by omega, ⟨by omega, by omega⟩⟩ ?_; conv => whnf)
      | ((with_reducible refine Tst.tt ?_); conv => whnf)
      | ((with_reducible refine Tst.ff ?_); conv => whnf)
      | ((with_reducible refine Tst.dec (fun _ => ?_) (fun _ => ?_)) <;> first | (exfalso; omega) | (conv => whnf))
      | ((with_reducible refine Tst.not ?_))
      | (refine Wit.conv ⟨by omega, by omega⟩ ?_; conv => whnf)
      | ((with_reducible refine IdxV.nat (by omega) ?_); conv => whnf)
      | ((with_reducible refine SameW.mk rfl ?_); conv => whnf)
      | (refine LoadV.mem (i := 0) (by assumption) rfl rfl ?_; conv => whnf)
      | (refine LoadV.mem (i := 1) (by assumption) rfl rfl ?_; conv => whnf)
      | (refine LoadV.mem (i := 2) (by assumption) rfl rfl ?_; conv => whnf)
      | ((with_reducible refine Tst.beqT ?_))
      | ((with_reducible refine Tst.beqF ?_))
      | (refine Tst.yes rfl ?_; conv => whnf)
      | (refine Tst.no rfl ?_; conv => whnf)))
    all_goals (refine ⟨congrArg Value.bool ?_, he⟩; rw [Bool.eq_iff_iff]; simp; try omega)

/-- the scalars of a text -/
theorem scalars_any (s : ByteArray) (hs : s.size ≤ 4000000000000) (w : World) :
    Gv Tryz.prog 151 [.string s] w fun v w' => ((scal s.data.toList = none ∧ v = .tuple #[.slice none 0 0, .bool false]) ∨
      (∃ l A c, scal s.data.toList = some l ∧ v = .tuple #[.slice A l.length c, .bool true] ∧ SlAt Go.Proofs.YtajgbepghniciaaGreatDoor.V.encI 1 w' A (l.map Int.ofNat) ∧ l.length ≤ s.size)) ∧ Ext w w' := by
  refine gv (by kernel_rfl) Tryz.func151 rfl Tryz.ntmps151 rfl ?_; conv => whnf
  refine loopV (fun x : Nat × List Int × Option Addr × Nat => [(0, .string s), (4, .slice x.2.2.1 x.2.1.length x.2.2.2), (5, .int .i64 x.1)])
    (fun x w2 => x.1 ≤ s.size ∧ x.2.1.length ≤ x.1 ∧ Rw w w2 (.slice x.2.2.1 x.2.1.length x.2.2.2) 3 1 x.2.1.length (x.2.1.map (Value.int .i64)) [] ∧ (scal s.data.toList).map (·.map Int.ofNat) = (scal (s.data.toList.drop x.1)).map fun l => x.2.1 ++ l.map Int.ofNat)
    (fun x => s.size - x.1) (0, [], none, 0) ⟨rfl, rfl, rfl, trivial⟩ ⟨by simp, by simp, Rw.nil (Mem.nil w), by simp⟩ ?_
  rintro ⟨i, zs, B, d⟩ w2 ρ' ⟨h1, h2, hR, h3⟩
  simp only at h1 h2 hR h3
  dsimp only
  (conv => whnf)
  (repeat' (first
      | (refine Obl.mk ⟨by omega, by omega⟩ ?_; conv => whnf)
      | (refine Obl.mk ⟨by omega, by omega, ⟨by omega, by omega⟩⟩ ?_; conv => whnf)
      | ((with_reducible refine Tst.tt ?_); conv => whnf)
      | ((with_reducible refine Tst.ff ?_); conv => whnf)
      | ((with_reducible refine Tst.dec (fun _ => ?_) (fun _ => ?_)) <;> first | (exfalso; omega) | (conv => whnf))
      | ((with_reducible refine Tst.not ?_))
      | (refine Wit.conv ⟨by omega, by omega⟩ ?_; conv => whnf)
      | ((with_reducible refine IdxV.nat (by omega) ?_); conv => whnf)
      | ((with_reducible refine SameW.mk rfl ?_); conv => whnf)
      | (refine LoadV.mem (i := 0) (by assumption) rfl rfl ?_; conv => whnf)
      | (refine LoadV.mem (i := 1) (by assumption) rfl rfl ?_; conv => whnf)
      | (refine LoadV.mem (i := 2) (by assumption) rfl rfl ?_; conv => whnf)
      | ((with_reducible refine Tst.beqT ?_))
      | ((with_reducible refine Tst.beqF ?_))
      | (refine Tst.yes rfl ?_; conv => whnf)
      | (refine Tst.no rfl ?_; conv => whnf)))
  · refine CallV.of (refNext_any s i (by omega) (by omega) w2) ?_
    rintro v w3 ⟨rfl, he⟩
    have hle := decN_le (s.data.toList.drop i)
    rw [drop_len] at hle
    have hR3 := hR.call he
    (conv => whnf)
    (repeat' (first
      | (refine Obl.mk ⟨by omega, by omega⟩ ?_; conv => whnf)
      | (refine Obl.mk ⟨by omega, by omega, ⟨by omega, by omega⟩⟩ ?_; conv => whnf)
      | ((with_reducible refine Tst.tt ?_); conv => whnf)
      | ((with_reducible refine Tst.ff ?_); conv => whnf)
      | ((with_reducible refine Tst.dec (fun _ => ?_) (fun _ => ?_)) <;> first | (exfalso; omega) | (conv => whnf))
      | ((with_reducible refine Tst.not ?_))
      | (refine Wit.conv ⟨by omega, by omega⟩ ?_; conv => whnf)
      | ((with_reducible refine IdxV.nat (by omega) ?_); conv => whnf)
      | ((with_reducible refine SameW.mk rfl ?_); conv => whnf)
      | (refine LoadV.mem (i := 0) (by assumption) rfl rfl ?_; conv => whnf)
      | (refine LoadV.mem (i := 1) (by assumption) rfl rfl ?_; conv => whnf)
      | (refine LoadV.mem (i := 2) (by assumption) rfl rfl ?_; conv => whnf)
      | ((with_reducible refine Tst.beqT ?_))
      | ((with_reducible refine Tst.beqF ?_))
      | (refine Tst.yes rfl ?_; conv => whnf)
      | (refine Tst.no rfl ?_; conv => whnf)))
    · refine ⟨.inl ⟨?_, rfl⟩, hR3.mem.ext⟩
      rw [scal_none (drop_ne s i (by omega)) (by omega)] at h3
      cases hsc : scal s.data.toList with
      | none => rfl
      | some l => rw [hsc] at h3; cases h3
    · refine NewV.rw hR3 ?_
      intro nb w4 hR4
      (conv => whnf)
      refine AppV.one (i := _) (z := .int .i64 0) Tryz.underlying83 (Option.some_get (by kernel_rfl)).symm (by kernel_rfl) (by kernel_rfl) rfl (by decide +kernel) hR4 rfl (by omega) ?_
      intro B' d' w5 hR5
      (conv => whnf)
      (repeat' (first
      | (refine Obl.mk ⟨by omega, by omega⟩ ?_; conv => whnf)
      | (refine Obl.mk ⟨by omega, by omega, ⟨by omega, by omega⟩⟩ ?_; conv => whnf)
      | ((with_reducible refine Tst.tt ?_); conv => whnf)
      | ((with_reducible refine Tst.ff ?_); conv => whnf)
      | ((with_reducible refine Tst.dec (fun _ => ?_) (fun _ => ?_)) <;> first | (exfalso; omega) | (conv => whnf))
      | ((with_reducible refine Tst.not ?_))
      | (refine Wit.conv ⟨by omega, by omega⟩ ?_; conv => whnf)
      | ((with_reducible refine IdxV.nat (by omega) ?_); conv => whnf)
      | ((with_reducible refine SameW.mk rfl ?_); conv => whnf)
      | (refine LoadV.mem (i := 0) (by assumption) rfl rfl ?_; conv => whnf)
      | (refine LoadV.mem (i := 1) (by assumption) rfl rfl ?_; conv => whnf)
      | (refine LoadV.mem (i := 2) (by assumption) rfl rfl ?_; conv => whnf)
      | ((with_reducible refine Tst.beqT ?_))
      | ((with_reducible refine Tst.beqF ?_))
      | (refine Tst.yes rfl ?_; conv => whnf)
      | (refine Tst.no rfl ?_; conv => whnf)))
      refine ⟨(i + (decN (s.data.toList.drop i)).2, zs ++ [((decN (s.data.toList.drop i)).1 : Int)], B', d'), ⟨rfl, by simp only [List.length_append]; rfl, rfl, trivial⟩, ⟨by simp only; omega, by simp only [List.length_append, List.length_singleton]; omega, ?_, ?_⟩, by simp only; omega⟩
      · simp only [List.length_append, List.length_singleton, List.map_append, List.map_cons, List.map_nil]
        exact hR5
      · simp only
        rw [h3, scal_step (drop_ne s i (by omega)) (by omega), List.drop_drop]
        cases scal (s.data.toList.drop (i + (decN (s.data.toList.drop i)).2)) with
        | none => rfl
        | some l => simp
  · refine ⟨?_, hR.mem.ext⟩
    rw [List.drop_eq_nil_of_le (by simp; omega), scal] at h3
    cases hsc : scal s.data.toList with
    | none => rw [hsc] at h3; cases h3
    | some l =>
      rw [hsc] at h3
      simp at h3
      subst h3
      refine .inr ⟨l, B, d, rfl, by simp, ?_, by simpa using Nat.le_trans h2 h1⟩
      exact hR.ints
end Go.Proofs.YtajgbepghniciaaGreatDoor
namespace Go.Proofs.YtajgbepghniciaaGreatDoor
open Go.RowKit V
set_option maxRecDepth 100000

theorem all_take_succ {q : UInt8 → Bool} (s : ByteArray) (p : Nat) (hp : p < s.size) : (s.data.toList.take (p + 1)).all q = ((s.data.toList.take p).all q && q (gb s p)) := by
  rw [get_take (by simpa using hp), List.all_append]
  simp [gb]
def digA (s : ByteArray) : Bool := s.data.toList.all fun c => digN c.toNat
def letA (s : ByteArray) : Bool := s.data.toList.all fun c => letN c.toNat
theorem digA_no {s : ByteArray} {i : Nat} (hi : i < s.size) (h : digN (gb s i).toNat = false) : digA s = false := by
  rw [digA, List.all_eq_false]
  exact ⟨gb s i, by rw [gb, List.getD_eq_getElem?_getD, List.getElem?_eq_getElem (by simpa using hi)]; exact List.getElem_mem _, by simpa using h⟩
theorem letA_no {s : ByteArray} {i : Nat} (hi : i < s.size) (h : letN (gb s i).toNat = false) : letA s = false := by
  rw [letA, List.all_eq_false]
  exact ⟨gb s i, by rw [gb, List.getD_eq_getElem?_getD, List.getElem?_eq_getElem (by simpa using hi)]; exact List.getElem_mem _, by simpa using h⟩
theorem numerals_any (s : ByteArray) (hs : s.size ≤ 140737488355328) (w : World) : Gv Tryz.prog 308 [.string s] w fun v w' => v = .bool (digA s) ∧ w' = w := by
  refine gv (by kernel_rfl) Tryz.func308 rfl Tryz.ntmps308 rfl ?_; conv => whnf
  refine loopV (fun i : Nat => [(0, .string s), (3, .int .i64 i)]) (fun i w1 => i ≤ s.size ∧ (s.data.toList.take i).all (fun c => digN c.toNat) = true ∧ w1 = w) (fun i => s.size - i) 0 ⟨rfl, rfl, trivial⟩ ⟨by omega, rfl, rfl⟩ ?_
  rintro i w1 ρ' ⟨h1, h2, rfl⟩
  (conv => whnf)
  (repeat' (first
      | (refine Obl.mk ⟨by omega, by omega⟩ ?_; conv => whnf)
      | (refine Obl.mk ⟨by omega, by omega, ⟨by omega, by omega⟩⟩ ?_; conv => whnf)
      | ((with_reducible refine Tst.tt ?_); conv => whnf)
      | ((with_reducible refine Tst.ff ?_); conv => whnf)
      | ((with_reducible refine Tst.dec (fun _ => ?_) (fun _ => ?_)) <;> first | (exfalso; omega) | (conv => whnf))
      | ((with_reducible refine Tst.not ?_))
      | (refine Wit.conv ⟨by omega, by omega⟩ ?_; conv => whnf)
      | ((with_reducible refine IdxV.nat (by omega) ?_); conv => whnf)
      | ((with_reducible refine SameW.mk rfl ?_); conv => whnf)
      | (refine LoadV.mem (i := 0) (by assumption) rfl rfl ?_; conv => whnf)
      | (refine LoadV.mem (i := 1) (by assumption) rfl rfl ?_; conv => whnf)
      | (refine LoadV.mem (i := 2) (by assumption) rfl rfl ?_; conv => whnf)
      | ((with_reducible refine Tst.beqT ?_))
      | ((with_reducible refine Tst.beqF ?_))
      | (refine Tst.yes rfl ?_; conv => whnf)
      | (refine Tst.no rfl ?_; conv => whnf)))
  · exact ⟨by rw [digA_no (i := i) (by omega) (by simp [digN]; omega)], rfl⟩
  · exact ⟨by rw [digA_no (i := i) (by omega) (by simp [digN]; omega)], rfl⟩
  · exact ⟨i + 1, ⟨rfl, rfl, trivial⟩, ⟨by omega, by rw [all_take_succ s i (by omega), h2]; simp [digN]; omega, rfl⟩, by omega⟩
  · rw [List.take_of_length_le (by simp; omega)] at h2
    exact ⟨by rw [digA, h2], rfl⟩
theorem letters_any (s : ByteArray) (hs : s.size ≤ 140737488355328) (w : World) : Gv Tryz.prog 309 [.string s] w fun v w' => v = .bool (letA s) ∧ w' = w := by
  refine gv (by kernel_rfl) Tryz.func309 rfl Tryz.ntmps309 rfl ?_; conv => whnf
  refine loopV (fun i : Nat => [(0, .string s), (3, .int .i64 i)]) (fun i w1 => i ≤ s.size ∧ (s.data.toList.take i).all (fun c => letN c.toNat) = true ∧ w1 = w) (fun i => s.size - i) 0 ⟨rfl, rfl, trivial⟩ ⟨by omega, rfl, rfl⟩ ?_
  rintro i w1 ρ' ⟨h1, h2, rfl⟩
  (conv => whnf)
  (repeat' (first
      | (refine Obl.mk ⟨by omega, by omega⟩ ?_; conv => whnf)
      | (refine Obl.mk ⟨by omega, by omega, ⟨by omega, by omega⟩⟩ ?_; conv => whnf)
      | ((with_reducible refine Tst.tt ?_); conv => whnf)
      | ((with_reducible refine Tst.ff ?_); conv => whnf)
      | ((with_reducible refine Tst.dec (fun _ => ?_) (fun _ => ?_)) <;> first | (exfalso; omega) | (conv => whnf))
      | ((with_reducible refine Tst.not ?_))
      | (refine Wit.conv ⟨by omega, by omega⟩ ?_; conv => whnf)
      | ((with_reducible refine IdxV.nat (by omega) ?_); conv => whnf)
      | ((with_reducible refine SameW.mk rfl ?_); conv => whnf)
      | (refine LoadV.mem (i := 0) (by assumption) rfl rfl ?_; conv => whnf)
      | (refine LoadV.mem (i := 1) (by assumption) rfl rfl ?_; conv => whnf)
      | (refine LoadV.mem (i := 2) (by assumption) rfl rfl ?_; conv => whnf)
      | ((with_reducible refine Tst.beqT ?_))
      | ((with_reducible refine Tst.beqF ?_))
      | (refine Tst.yes rfl ?_; conv => whnf)
      | (refine Tst.no rfl ?_; conv => whnf)))
  all_goals first
    | exact ⟨by rw [letA_no (i := i) (by omega) (by simp [letN]; omega)], rfl⟩
    | exact ⟨i + 1, ⟨rfl, rfl, trivial⟩, ⟨by omega, by rw [all_take_succ s i (by omega), h2]; simp [letN]; omega, rfl⟩, by omega⟩
    | (rw [List.take_of_length_le (by simp; omega)] at h2
       exact ⟨by rw [letA, h2], rfl⟩)
theorem one_ext {s : ByteArray} {i : Nat} (h : i < s.size) : (s.extract i (i + 1)).data.toList = [gb s i] := by
  have : (s.extract i (i + 1)).data.toList = (s.data.toList.drop i).take 1 := by
    rw [ByteArray.data_extract, Array.toList_extract, List.extract_eq_take_drop, Nat.add_sub_cancel_left]
  rw [this, drop_get s i h]
  rfl
theorem one_size {s : ByteArray} {i : Nat} (h : i < s.size) : (s.extract i (i + 1)).size = 1 := by
  rw [ByteArray.size_extract]; omega
theorem one_let {s : ByteArray} {i : Nat} (h : i < s.size) : letA (s.extract i (i + 1)) = letN (gb s i).toNat := by rw [letA, one_ext h]; simp
theorem one_dig {s : ByteArray} {i : Nat} (h : i < s.size) : digA (s.extract i (i + 1)) = digN (gb s i).toNat := by rw [digA, one_ext h]; simp
theorem madeB_no {s : ByteArray} {lo hi i : Nat} {p : Bool} (hi' : i < s.size) (h : alnB p (gb s i) = false) : madeB s lo hi p = false := by
  have : s.data.toList.all (alnB p) = false := by
    rw [List.all_eq_false]
    exact ⟨gb s i, by rw [gb, List.getD_eq_getElem?_getD, List.getElem?_eq_getElem (by simpa using hi')]; exact List.getElem_mem _, by simpa using h⟩
  rw [madeB, this]; rfl
theorem both_any (s : ByteArray) (lo hi : Nat) (hs : s.size ≤ 140737488355328) (w : World) : Gv Tryz.prog 273 [.string s, .int .i64 lo, .int .i64 hi] w fun v w' => v = .bool (madeB s lo hi false) ∧ w' = w := by
  refine gv (by kernel_rfl) Tryz.func273 rfl Tryz.ntmps273 rfl ?_; conv => whnf
  refine loopV (fun i : Nat => [(0, .string s), (1, .int .i64 lo), (2, .int .i64 hi), (7, .int .i64 i)]) (fun i w1 => i ≤ s.size ∧ (s.data.toList.take i).all (alnB false) = true ∧ w1 = w) (fun i => s.size - i) 0 ⟨rfl, rfl, rfl, rfl, trivial⟩ ⟨by omega, rfl, rfl⟩ ?_
  rintro i w1 ρ' ⟨h1, h2, rfl⟩
  (conv => whnf)
  (repeat' (first
      | (refine Obl.mk ⟨by omega, by omega⟩ ?_; conv => whnf)
      | (refine Obl.mk ⟨by omega, by omega, ⟨by omega, by omega⟩⟩ ?_; conv => whnf)
      | ((with_reducible refine Tst.tt ?_); conv => whnf)
      | ((with_reducible refine Tst.ff ?_); conv => whnf)
      | ((with_reducible refine Tst.dec (fun _ => ?_) (fun _ => ?_)) <;> first | (exfalso; omega) | (conv => whnf))
      | ((with_reducible refine Tst.not ?_))
      | (refine Wit.conv ⟨by omega, by omega⟩ ?_; conv => whnf)
      | ((with_reducible refine IdxV.nat (by omega) ?_); conv => whnf)
      | ((with_reducible refine SameW.mk rfl ?_); conv => whnf)
      | (refine LoadV.mem (i := 0) (by assumption) rfl rfl ?_; conv => whnf)
      | (refine LoadV.mem (i := 1) (by assumption) rfl rfl ?_; conv => whnf)
      | (refine LoadV.mem (i := 2) (by assumption) rfl rfl ?_; conv => whnf)
      | ((with_reducible refine Tst.beqT ?_))
      | ((with_reducible refine Tst.beqF ?_))
      | (refine Tst.yes rfl ?_; conv => whnf)
      | (refine Tst.no rfl ?_; conv => whnf)))
  · have hi : i < s.size := by omega
    have hsz := one_size hi
    refine ⟨i, i + 1, rfl, rfl, by omega, by omega, ?_⟩
    (conv => whnf)
    refine CallV.of (letters_any (s.extract i (i + 1)) (by omega) w1) ?_
    rintro v w2 ⟨rfl, rfl⟩
    rw [one_let hi]
    cases hl : letN (gb s i).toNat
    · (conv => whnf)
      (repeat' (first
      | (refine Obl.mk ⟨by omega, by omega⟩ ?_; conv => whnf)
      | (refine Obl.mk ⟨by omega, by omega, ⟨by omega, by omega⟩⟩ ?_; conv => whnf)
      | ((with_reducible refine Tst.tt ?_); conv => whnf)
      | ((with_reducible refine Tst.ff ?_); conv => whnf)
      | ((with_reducible refine Tst.dec (fun _ => ?_) (fun _ => ?_)) <;> first | (exfalso; omega) | (conv => whnf))
      | ((with_reducible refine Tst.not ?_))
      | (refine Wit.conv ⟨by omega, by omega⟩ ?_; conv => whnf)
      | ((with_reducible refine IdxV.nat (by omega) ?_); conv => whnf)
      | ((with_reducible refine SameW.mk rfl ?_); conv => whnf)
      | (refine LoadV.mem (i := 0) (by assumption) rfl rfl ?_; conv => whnf)
      | (refine LoadV.mem (i := 1) (by assumption) rfl rfl ?_; conv => whnf)
      | (refine LoadV.mem (i := 2) (by assumption) rfl rfl ?_; conv => whnf)
      | ((with_reducible refine Tst.beqT ?_))
      | ((with_reducible refine Tst.beqF ?_))
      | (refine Tst.yes rfl ?_; conv => whnf)
      | (refine Tst.no rfl ?_; conv => whnf)))
      refine ⟨i, i + 1, rfl, rfl, by omega, by omega, ?_⟩
      (conv => whnf)
      (repeat' (first
      | (refine Obl.mk ⟨by omega, by omega⟩ ?_; conv => whnf)
      | (refine Obl.mk ⟨by omega, by omega, ⟨by omega, by omega⟩⟩ ?_; conv => whnf)
      | ((with_reducible refine Tst.tt ?_); conv => whnf)
      | ((with_reducible refine Tst.ff ?_); conv => whnf)
      | ((with_reducible refine Tst.dec (fun _ => ?_) (fun _ => ?_)) <;> first | (exfalso; omega) | (conv => whnf))
      | ((with_reducible refine Tst.not ?_))
      | (refine Wit.conv ⟨by omega, by omega⟩ ?_; conv => whnf)
      | ((with_reducible refine IdxV.nat (by omega) ?_); conv => whnf)
      | ((with_reducible refine SameW.mk rfl ?_); conv => whnf)
      | (refine LoadV.mem (i := 0) (by assumption) rfl rfl ?_; conv => whnf)
      | (refine LoadV.mem (i := 1) (by assumption) rfl rfl ?_; conv => whnf)
      | (refine LoadV.mem (i := 2) (by assumption) rfl rfl ?_; conv => whnf)
      | ((with_reducible refine Tst.beqT ?_))
      | ((with_reducible refine Tst.beqF ?_))
      | (refine Tst.yes rfl ?_; conv => whnf)
      | (refine Tst.no rfl ?_; conv => whnf)))
      refine CallV.of (numerals_any (s.extract i (i + 1)) (by omega) w2) ?_
      rintro v w3 ⟨rfl, rfl⟩
      rw [one_dig hi]
      cases hd : digN (gb s i).toNat
      · (conv => whnf)
        (repeat' (first
      | (refine Obl.mk ⟨by omega, by omega⟩ ?_; conv => whnf)
      | (refine Obl.mk ⟨by omega, by omega, ⟨by omega, by omega⟩⟩ ?_; conv => whnf)
      | ((with_reducible refine Tst.tt ?_); conv => whnf)
      | ((with_reducible refine Tst.ff ?_); conv => whnf)
      | ((with_reducible refine Tst.dec (fun _ => ?_) (fun _ => ?_)) <;> first | (exfalso; omega) | (conv => whnf))
      | ((with_reducible refine Tst.not ?_))
      | (refine Wit.conv ⟨by omega, by omega⟩ ?_; conv => whnf)
      | ((with_reducible refine IdxV.nat (by omega) ?_); conv => whnf)
      | ((with_reducible refine SameW.mk rfl ?_); conv => whnf)
      | (refine LoadV.mem (i := 0) (by assumption) rfl rfl ?_; conv => whnf)
      | (refine LoadV.mem (i := 1) (by assumption) rfl rfl ?_; conv => whnf)
      | (refine LoadV.mem (i := 2) (by assumption) rfl rfl ?_; conv => whnf)
      | ((with_reducible refine Tst.beqT ?_))
      | ((with_reducible refine Tst.beqF ?_))
      | (refine Tst.yes rfl ?_; conv => whnf)
      | (refine Tst.no rfl ?_; conv => whnf)))
        exact ⟨by rw [madeB_no hi (by rw [alnB, hl, hd]; rfl)], rfl⟩
      · (conv => whnf)
        (repeat' (first
      | (refine Obl.mk ⟨by omega, by omega⟩ ?_; conv => whnf)
      | (refine Obl.mk ⟨by omega, by omega, ⟨by omega, by omega⟩⟩ ?_; conv => whnf)
      | ((with_reducible refine Tst.tt ?_); conv => whnf)
      | ((with_reducible refine Tst.ff ?_); conv => whnf)
      | ((with_reducible refine Tst.dec (fun _ => ?_) (fun _ => ?_)) <;> first | (exfalso; omega) | (conv => whnf))
      | ((with_reducible refine Tst.not ?_))
      | (refine Wit.conv ⟨by omega, by omega⟩ ?_; conv => whnf)
      | ((with_reducible refine IdxV.nat (by omega) ?_); conv => whnf)
      | ((with_reducible refine SameW.mk rfl ?_); conv => whnf)
      | (refine LoadV.mem (i := 0) (by assumption) rfl rfl ?_; conv => whnf)
      | (refine LoadV.mem (i := 1) (by assumption) rfl rfl ?_; conv => whnf)
      | (refine LoadV.mem (i := 2) (by assumption) rfl rfl ?_; conv => whnf)
      | ((with_reducible refine Tst.beqT ?_))
      | ((with_reducible refine Tst.beqF ?_))
      | (refine Tst.yes rfl ?_; conv => whnf)
      | (refine Tst.no rfl ?_; conv => whnf)))
        exact ⟨i + 1, ⟨rfl, rfl, rfl, rfl, trivial⟩, ⟨by omega, by rw [all_take_succ s i hi, h2, alnB, hl, hd]; rfl, rfl⟩, by omega⟩
    · (conv => whnf)
      (repeat' (first
      | (refine Obl.mk ⟨by omega, by omega⟩ ?_; conv => whnf)
      | (refine Obl.mk ⟨by omega, by omega, ⟨by omega, by omega⟩⟩ ?_; conv => whnf)
      | ((with_reducible refine Tst.tt ?_); conv => whnf)
      | ((with_reducible refine Tst.ff ?_); conv => whnf)
      | ((with_reducible refine Tst.dec (fun _ => ?_) (fun _ => ?_)) <;> first | (exfalso; omega) | (conv => whnf))
      | ((with_reducible refine Tst.not ?_))
      | (refine Wit.conv ⟨by omega, by omega⟩ ?_; conv => whnf)
      | ((with_reducible refine IdxV.nat (by omega) ?_); conv => whnf)
      | ((with_reducible refine SameW.mk rfl ?_); conv => whnf)
      | (refine LoadV.mem (i := 0) (by assumption) rfl rfl ?_; conv => whnf)
      | (refine LoadV.mem (i := 1) (by assumption) rfl rfl ?_; conv => whnf)
      | (refine LoadV.mem (i := 2) (by assumption) rfl rfl ?_; conv => whnf)
      | ((with_reducible refine Tst.beqT ?_))
      | ((with_reducible refine Tst.beqF ?_))
      | (refine Tst.yes rfl ?_; conv => whnf)
      | (refine Tst.no rfl ?_; conv => whnf)))
      exact ⟨i + 1, ⟨rfl, rfl, rfl, rfl, trivial⟩, ⟨by omega, by rw [all_take_succ s i hi, h2, alnB, hl]; rfl, rfl⟩, by omega⟩
  all_goals
    rw [List.take_of_length_le (by simp; omega)] at h2
    have hM : madeB s lo hi false = decide (lo ≤ s.size ∧ s.size ≤ hi) := by rw [madeB, h2]; rfl
  · exact ⟨congrArg Value.bool (by rw [hM, Bool.eq_iff_iff]; simp; omega), rfl⟩
  · exact ⟨congrArg Value.bool (by rw [hM, eq_comm, decide_eq_false_iff_not]; omega), rfl⟩
theorem refVariant_any (s : ByteArray) (hs : s.size ≤ 140737488355328) (w : World) : Gv Tryz.prog 272 [.string s] w fun v w' => v = .bool (varB s) ∧ w' = w := by
  refine gv (by kernel_rfl) Tryz.func272 rfl Tryz.ntmps272 rfl ?_; conv => whnf
  refine CallV.of (both_any s 5 8 hs w) ?_
  rintro v w1 ⟨rfl, rfl⟩
  cases m1 : madeB s 5 8 false
  · (conv => whnf)
    (repeat' (first
      | (refine Obl.mk ⟨by omega, by omega⟩ ?_; conv => whnf)
      | (refine Obl.mk ⟨by omega, by omega, ⟨by omega, by omega⟩⟩ ?_; conv => whnf)
      | ((with_reducible refine Tst.tt ?_); conv => whnf)
      | ((with_reducible refine Tst.ff ?_); conv => whnf)
      | ((with_reducible refine Tst.dec (fun _ => ?_) (fun _ => ?_)) <;> first | (exfalso; omega) | (conv => whnf))
      | ((with_reducible refine Tst.not ?_))
      | (refine Wit.conv ⟨by omega, by omega⟩ ?_; conv => whnf)
      | ((with_reducible refine IdxV.nat (by omega) ?_); conv => whnf)
      | ((with_reducible refine SameW.mk rfl ?_); conv => whnf)
      | (refine LoadV.mem (i := 0) (by assumption) rfl rfl ?_; conv => whnf)
      | (refine LoadV.mem (i := 1) (by assumption) rfl rfl ?_; conv => whnf)
      | (refine LoadV.mem (i := 2) (by assumption) rfl rfl ?_; conv => whnf)
      | ((with_reducible refine Tst.beqT ?_))
      | ((with_reducible refine Tst.beqF ?_))
      | (refine Tst.yes rfl ?_; conv => whnf)
      | (refine Tst.no rfl ?_; conv => whnf)))
    refine CallV.of (both_any s 4 4 hs w1) ?_
    rintro v w2 ⟨rfl, rfl⟩
    cases m2 : madeB s 4 4 false
    · (conv => whnf)
      (repeat' (first
      | (refine Obl.mk ⟨by omega, by omega⟩ ?_; conv => whnf)
      | (refine Obl.mk ⟨by omega, by omega, ⟨by omega, by omega⟩⟩ ?_; conv => whnf)
      | ((with_reducible refine Tst.tt ?_); conv => whnf)
      | ((with_reducible refine Tst.ff ?_); conv => whnf)
      | ((with_reducible refine Tst.dec (fun _ => ?_) (fun _ => ?_)) <;> first | (exfalso; omega) | (conv => whnf))
      | ((with_reducible refine Tst.not ?_))
      | (refine Wit.conv ⟨by omega, by omega⟩ ?_; conv => whnf)
      | ((with_reducible refine IdxV.nat (by omega) ?_); conv => whnf)
      | ((with_reducible refine SameW.mk rfl ?_); conv => whnf)
      | (refine LoadV.mem (i := 0) (by assumption) rfl rfl ?_; conv => whnf)
      | (refine LoadV.mem (i := 1) (by assumption) rfl rfl ?_; conv => whnf)
      | (refine LoadV.mem (i := 2) (by assumption) rfl rfl ?_; conv => whnf)
      | ((with_reducible refine Tst.beqT ?_))
      | ((with_reducible refine Tst.beqF ?_))
      | (refine Tst.yes rfl ?_; conv => whnf)
      | (refine Tst.no rfl ?_; conv => whnf)))
      exact ⟨by rw [varB, m1, m2]; rfl, rfl⟩
    · have hsz : s.size = 4 := by
        simp [madeB] at m2; omega
      have h1 := one_size (s := s) (i := 0) (by omega)
      (conv => whnf)
      (repeat' (first
      | (refine Obl.mk ⟨by omega, by omega⟩ ?_; conv => whnf)
      | (refine Obl.mk ⟨by omega, by omega, ⟨by omega, by omega⟩⟩ ?_; conv => whnf)
      | ((with_reducible refine Tst.tt ?_); conv => whnf)
      | ((with_reducible refine Tst.ff ?_); conv => whnf)
      | ((with_reducible refine Tst.dec (fun _ => ?_) (fun _ => ?_)) <;> first | (exfalso; omega) | (conv => whnf))
      | ((with_reducible refine Tst.not ?_))
      | (refine Wit.conv ⟨by omega, by omega⟩ ?_; conv => whnf)
      | ((with_reducible refine IdxV.nat (by omega) ?_); conv => whnf)
      | ((with_reducible refine SameW.mk rfl ?_); conv => whnf)
      | (refine LoadV.mem (i := 0) (by assumption) rfl rfl ?_; conv => whnf)
      | (refine LoadV.mem (i := 1) (by assumption) rfl rfl ?_; conv => whnf)
      | (refine LoadV.mem (i := 2) (by assumption) rfl rfl ?_; conv => whnf)
      | ((with_reducible refine Tst.beqT ?_))
      | ((with_reducible refine Tst.beqF ?_))
      | (refine Tst.yes rfl ?_; conv => whnf)
      | (refine Tst.no rfl ?_; conv => whnf)))
      refine ⟨0, 1, rfl, rfl, by omega, by omega, ?_⟩
      (conv => whnf)
      (repeat' (first
      | (refine Obl.mk ⟨by omega, by omega⟩ ?_; conv => whnf)
      | (refine Obl.mk ⟨by omega, by omega, ⟨by omega, by omega⟩⟩ ?_; conv => whnf)
      | ((with_reducible refine Tst.tt ?_); conv => whnf)
      | ((with_reducible refine Tst.ff ?_); conv => whnf)
      | ((with_reducible refine Tst.dec (fun _ => ?_) (fun _ => ?_)) <;> first | (exfalso; omega) | (conv => whnf))
      | ((with_reducible refine Tst.not ?_))
      | (refine Wit.conv ⟨by omega, by omega⟩ ?_; conv => whnf)
      | ((with_reducible refine IdxV.nat (by omega) ?_); conv => whnf)
      | ((with_reducible refine SameW.mk rfl ?_); conv => whnf)
      | (refine LoadV.mem (i := 0) (by assumption) rfl rfl ?_; conv => whnf)
      | (refine LoadV.mem (i := 1) (by assumption) rfl rfl ?_; conv => whnf)
      | (refine LoadV.mem (i := 2) (by assumption) rfl rfl ?_; conv => whnf)
      | ((with_reducible refine Tst.beqT ?_))
      | ((with_reducible refine Tst.beqF ?_))
      | (refine Tst.yes rfl ?_; conv => whnf)
      | (refine Tst.no rfl ?_; conv => whnf)))
      refine CallV.of (numerals_any (s.extract 0 1) (by show (s.extract 0 (0 + 1)).size ≤ _; omega) w2) ?_
      rintro v w3 ⟨rfl, rfl⟩
      (conv => whnf)
      (repeat' (first
      | (refine Obl.mk ⟨by omega, by omega⟩ ?_; conv => whnf)
      | (refine Obl.mk ⟨by omega, by omega, ⟨by omega, by omega⟩⟩ ?_; conv => whnf)
      | ((with_reducible refine Tst.tt ?_); conv => whnf)
      | ((with_reducible refine Tst.ff ?_); conv => whnf)
      | ((with_reducible refine Tst.dec (fun _ => ?_) (fun _ => ?_)) <;> first | (exfalso; omega) | (conv => whnf))
      | ((with_reducible refine Tst.not ?_))
      | (refine Wit.conv ⟨by omega, by omega⟩ ?_; conv => whnf)
      | ((with_reducible refine IdxV.nat (by omega) ?_); conv => whnf)
      | ((with_reducible refine SameW.mk rfl ?_); conv => whnf)
      | (refine LoadV.mem (i := 0) (by assumption) rfl rfl ?_; conv => whnf)
      | (refine LoadV.mem (i := 1) (by assumption) rfl rfl ?_; conv => whnf)
      | (refine LoadV.mem (i := 2) (by assumption) rfl rfl ?_; conv => whnf)
      | ((with_reducible refine Tst.beqT ?_))
      | ((with_reducible refine Tst.beqF ?_))
      | (refine Tst.yes rfl ?_; conv => whnf)
      | (refine Tst.no rfl ?_; conv => whnf)))
      exact ⟨by rw [varB, m1, m2, one_dig (s := s) (i := 0) (by omega)]; rfl, rfl⟩
  · (conv => whnf)
    (repeat' (first
      | (refine Obl.mk ⟨by omega, by omega⟩ ?_; conv => whnf)
      | (refine Obl.mk ⟨by omega, by omega, ⟨by omega, by omega⟩⟩ ?_; conv => whnf)
      | ((with_reducible refine Tst.tt ?_); conv => whnf)
      | ((with_reducible refine Tst.ff ?_); conv => whnf)
      | ((with_reducible refine Tst.dec (fun _ => ?_) (fun _ => ?_)) <;> first | (exfalso; omega) | (conv => whnf))
      | ((with_reducible refine Tst.not ?_))
      | (refine Wit.conv ⟨by omega, by omega⟩ ?_; conv => whnf)
      | ((with_reducible refine IdxV.nat (by omega) ?_); conv => whnf)
      | ((with_reducible refine SameW.mk rfl ?_); conv => whnf)
      | (refine LoadV.mem (i := 0) (by assumption) rfl rfl ?_; conv => whnf)
      | (refine LoadV.mem (i := 1) (by assumption) rfl rfl ?_; conv => whnf)
      | (refine LoadV.mem (i := 2) (by assumption) rfl rfl ?_; conv => whnf)
      | ((with_reducible refine Tst.beqT ?_))
      | ((with_reducible refine Tst.beqF ?_))
      | (refine Tst.yes rfl ?_; conv => whnf)
      | (refine Tst.no rfl ?_; conv => whnf)))
    exact ⟨by rw [varB, m1]; rfl, rfl⟩
end Go.Proofs.YtajgbepghniciaaGreatDoor
