/- The shell of a law: what a walk that ends with 'true' and leaves memory as it was says of the readings. Program-independent. -/
import Derived.Test.YtajgbepghniciaaGreatDoorM
import Derived.WideKeyArgs
import Derived.ChangeSame
import Derived.ChangeVars
import Derived.RowKit
import Derived.OpenShut
import Derived.Deep.Strs
namespace Go.Proofs.YtajgbepghniciaaGreatDoor
open Go.ChangeShapes Go.WideShapes Go.RowKit
namespace V
section
variable {H : Type} {enc : TypeId × Value → H} {P : Program}
theorem trodAll_stays (hl : laidOutB P = true) {base : Nat} {W W' : World} {sp' : Nat → Bool} : ∀ {ts : List TypeId} {vs : List Value} {ds : List (DataW H)} {ps : List MemPlace},
    (∀ t ∈ ts, P.readableRec t = true ∧ t < P.types.size) → DataW.TrodAll enc P W base (fun _ => true) true ts vs ds ps → (∀ p ∈ ps, W.sameAt W' p) → (∀ p ∈ ps, sp' p.block = true) →
    DataW.TrodAll enc P W' base sp' true ts vs ds ps
  | [], _, _, _, _, h, _, _ => by
    obtain ⟨rfl, rfl, rfl⟩ := trodAll_nil h
    exact trodAll_mk0
  | t :: ts, _, _, _, hr, h, h1, h2 => by
    obtain ⟨v, vs, d, ds, p, q, rfl, rfl, rfl, ha, hb⟩ := trodAll_cons h
    obtain ⟨r1, r2⟩ := hr t (List.mem_cons_self ..)
    exact ⟨p, q, WideElems.Trod_stays hl r1 r2 ha (fun x hx => h1 x (List.mem_append_left _ hx)) (fun x hx => h2 x (List.mem_append_left _ hx)),
      trodAll_stays hl (fun t ht => hr t (List.mem_cons_of_mem _ ht)) hb (fun x hx => h1 x (List.mem_append_right _ hx)) (fun x hx => h2 x (List.mem_append_right _ hx)), rfl⟩
theorem post_of_ext {f : Func} {s : ChangeSpec} {apart fresh handsOn again : Bool} {W W' : World} {args : Array Value} {v : Value} {ds gs : List (DataW H)} {before pa pv : List MemPlace}
    (hW : DataW.Whole enc P f.params.toList s.vars apart W args.toList ds gs before)
    (hres : ∀ (b : Nat) (sp : Nat → Bool) (hd : Bool), DataW.TrodAll enc P W' b sp hd f.resultTypes.toList (v.resultList f.resultTypes.size) (s.fn H (ds ++ gs)).results [])
    (hargs : ∀ sp : Nat → Bool, (∀ p ∈ before, sp p.block = true) → DataW.TrodAll enc P W' 0 sp true f.params.toList args.toList (s.fn H (ds ++ gs)).args pa)
    (hvars : ∀ sp : Nat → Bool, (∀ p ∈ before, sp p.block = true) → DataW.TrodVars enc P W' sp s.vars (s.fn H (ds ++ gs)).vars pv)
    (hps : before = pa ++ pv) (he : Ext W W')
    (hok : ∀ (j : Nat) (t : TypeId) (r : Value), f.resultTypes[j]? = some t → (v.resultList f.resultTypes.size)[j]? = some r → Value.okWide P W' .any 0 t r) :
    s.post enc P f apart fresh handsOn again W args v W' := by
  have hlt := hW.lt
  have hold : ∀ p ∈ before, (fun b => decide (b < W.heap.size)) p.block = true := fun p hp => by simpa using hlt p hp
  refine ⟨ds, gs, before, [], pa, pv, hW, hres _ _ _, hargs _ hold, hvars _ hold, Below.frame he _, fun _ => ?_⟩
  obtain ⟨_, _, _, _, _, hz, hn⟩ := hW
  refine ⟨hok, _, _, ([] ++ pa) ++ pv, ⟨[] ++ pa, pv, trodAll_append (hargs _ (fun _ _ => rfl)) (hres _ _ _), hvars _ (fun _ _ => rfl), rfl, ?_, ?_⟩, ?_⟩
  · intro b off hp
    have hp' : MemPlace.cell b off ∈ before := by rw [hps]; simpa using hp
    rw [Below.frozen he (show (⟨b, off, none⟩ : Addr).block < W.heap.size from hlt _ hp')]
    exact hz b off hp'
  · intro ha
    have := hn ha
    rw [hps] at this
    simpa using this
  · intro p hp _
    rw [hps]
    simpa using hp
/-- .. and looks at no variable -/
theorem post_ext {f : Func} {s : ChangeSpec} {apart fresh handsOn again : Bool} {W W' : World} {args : Array Value} {v : Value} {ds gs : List (DataW H)} {before : List MemPlace} (hl : laidOutB P = true) (hr : ∀ t ∈ f.params.toList, P.readableRec t = true ∧ t < P.types.size)
    (hW : DataW.Whole enc P f.params.toList s.vars apart W args.toList ds gs before) (hv : s.vars = [])
    (hres : ∀ (b : Nat) (sp : Nat → Bool) (hd : Bool), DataW.TrodAll enc P W' b sp hd f.resultTypes.toList (v.resultList f.resultTypes.size) (s.fn H ds).results [])
    (hargs : (s.fn H ds).args = ds) (hvars : (s.fn H ds).vars = []) (he : Ext W W')
    (hok : ∀ (j : Nat) (t : TypeId) (r : Value), f.resultTypes[j]? = some t → (v.resultList f.resultTypes.size)[j]? = some r → Value.okWide P W' .any 0 t r) :
    s.post enc P f apart fresh handsOn again W args v W' := by
  have hlt := hW.lt
  have hW0 := hW
  obtain ⟨p, q, hA, hV, hpq, _, _⟩ := hW
  rw [hv] at hV
  obtain ⟨rfl, rfl⟩ := trodVars_none hV
  rw [List.append_nil] at hpq
  subst hpq
  refine post_of_ext (pa := before) (pv := []) hW0 ?_ ?_ ?_ (by simp) he hok
  · rw [List.append_nil]; exact hres
  · rw [List.append_nil, hargs]
    exact fun sp hsp => trodAll_stays hl hr hA (fun x hx => Below.same he (hlt x hx)) hsp
  · rw [List.append_nil, hvars, hv]
    exact fun _ _ => rfl
/-! Opening what a parameter reads as: the shape, and how much it weighs. -/
structure Opn (enc : TypeId × Value → H) (P : Program) (w : World) (t : TypeId) (cs : List Value) : Prop where
  h : ∃ n d ps, DataW.trod enc P w 0 (fun _ => true) true n t cs = some (d, ps) ∧ ∀ m ∈ DataW.weights P t d, m ≤ reachBytes
theorem mem_weightsEach {t : TypeId} {d : DataW H} {m : Nat} (hm : m ∈ DataW.weights P t d) : ∀ (ts : List TypeId) (ds : List (DataW H)) (i : Nat), ts[i]? = some t → ds[i]? = some d → m ∈ DataW.weightsEach P ts ds
  | [], _, _, h, _ => by simp at h
  | _ :: _, [], _, _, h => by simp at h
  | u :: ts, x :: ds, 0, h, h' => by
    simp at h h'
    subst h h'
    rw [DataW.weightsEach]
    exact List.mem_append_left _ hm
  | u :: ts, x :: ds, i + 1, h, h' => by
    rw [DataW.weightsEach]
    exact List.mem_append_right _ (mem_weightsEach hm ts ds i (by simpa using h) (by simpa using h'))
theorem mem_weightsAll {t : TypeId} {d : DataW H} {m : Nat} (hm : m ∈ DataW.weights P t d) : ∀ (ds : List (DataW H)), d ∈ ds → m ∈ DataW.weightsAll P t ds
  | [], h => by simp at h
  | x :: ds, h => by
    rw [DataW.weightsAll]
    rcases List.mem_cons.1 h with rfl | h
    · exact List.mem_append_left _ hm
    · exact List.mem_append_right _ (mem_weightsAll hm ds h)
section
variable {w : World} {t : TypeId}
theorem Opn.of {ts : List TypeId} {vs : List Value} {ds : List (DataW H)} {ps : List MemPlace} (h : DataW.TrodAll enc P w 0 (fun _ => true) true ts vs ds ps) (hw : (DataW.weightsEach P ts ds).all (· ≤ reachBytes) = true) :
    ∀ (i : Nat) u v, ts[i]? = some u → vs[i]? = some v → Opn enc P w u v.cells.toList := by
  have key : ∀ (ts : List TypeId) (vs : List Value) (ds : List (DataW H)) (ps : List MemPlace), DataW.TrodAll enc P w 0 (fun _ => true) true ts vs ds ps → (∀ m ∈ DataW.weightsEach P ts ds, m ≤ reachBytes) →
      ∀ (i : Nat) u v, ts[i]? = some u → vs[i]? = some v → Opn enc P w u v.cells.toList := by
    intro ts
    induction ts with
    | nil => intro vs ds ps _ _ i u v hu; simp at hu
    | cons t ts ih =>
      intro vs ds ps h hw i u v hu hv
      obtain ⟨x, vs', d, ds', p, q, rfl, rfl, rfl, ⟨n, ha⟩, hb⟩ := trodAll_cons h
      rw [DataW.weightsEach] at hw
      cases i with
      | zero =>
        simp at hu hv
        subst hu hv
        exact ⟨n, d, p, ha, fun m hm => hw m (List.mem_append_left _ hm)⟩
      | succ i => exact ih vs' ds' q hb (fun m hm => hw m (List.mem_append_right _ hm)) i u v (by simpa using hu) (by simpa using hv)
  exact key ts vs ds ps h (fun m hm => of_decide_eq_true (List.all_eq_true.1 hw m hm))
theorem Opn.fields {fs : Array Field} {cs : List Value} (ht : P.underlying t = some (.struct fs)) (h : Opn enc P w t cs) :
    cs.length = P.cellsOf t ∧ ∀ (i : Nat) (f : Field), fs[i]? = some f → Opn enc P w f.type ((cs.drop f.offset).take (P.cellsOf f.type)) := by
  obtain ⟨n, d, ps, h, hw⟩ := h
  obtain ⟨xs, n, _, hd, hl, hlen, hf⟩ := DataW.trod_struct ht h
  simp only [Prod.mk.injEq] at hd
  obtain ⟨rfl, rfl⟩ := hd
  refine ⟨hl, fun i f hi => ?_⟩
  have hil : i < xs.length := by
    rw [hlen]
    exact (Array.getElem?_eq_some_iff.1 hi).1
  refine ⟨n, xs[i].1, xs[i].2, by rw [hf i f hi, List.getElem?_eq_getElem hil], fun m hm => hw m ?_⟩
  rw [DataW.weights, ht]
  exact mem_weightsEach hm _ _ i (by rw [List.getElem?_map, Array.getElem?_toList, hi]; rfl) (by rw [List.getElem?_map, List.getElem?_eq_getElem hil]; rfl)
theorem Opn.string {c : Value} (ht : P.underlying t = some .string) (h : Opn enc P w t [c]) : ∃ s : ByteArray, c = .string s ∧ s.size ≤ 140737488355328 := by
  obtain ⟨n, d, ps, h, hw⟩ := h
  obtain ⟨s, h1, h2, _⟩ := DataW.trod_string ht h
  simp only [Prod.mk.injEq] at h2
  obtain ⟨rfl, rfl⟩ := h2
  refine ⟨s, by simpa using h1, ?_⟩
  have := hw s.data.toList.length (by rw [DataW.weights]; exact List.mem_singleton.2 rfl)
  have e : s.data.toList.length = s.size := Array.length_toList
  have e2 : reachBytes = 140737488351232 := rfl
  omega
theorem Opn.int {k : IntKind} {c : Value} (ht : P.underlying t = some (.int k)) (h : Opn enc P w t [c]) : ∃ n : Int, c = .int k n ∧ (Lit.int k n).wf = true := by
  obtain ⟨n, d, ps, h, hw⟩ := h
  obtain ⟨s, h1, _, h2⟩ := DataW.trod_int ht h
  exact ⟨s, by simpa using h1, h2⟩
theorem spot_none {w : World} {a : Addr} {v : Value} (h : w.cell? a = some v) : a = ⟨a.block, a.off, none⟩ := by
  obtain ⟨b, o, s⟩ := a
  cases s with
  | none => rfl
  | some s =>
    exfalso
    unfold World.cell? at h
    simp at h
    split at h <;> simp_all
/-- a slice: each element opened by its own law; it takes no more bytes than the process reaches -/
theorem Opn.slice {α : Type} [Inhabited α] {en : α → List Value} {R : α → Prop} {size e : Nat} {c : Value} (ht : P.underlying t = some (.slice e)) (hc : P.cellsOf e = size) (hs0 : 0 < size)
    (hen : ∀ x, (en x).length = size) (each : ∀ cs, Opn enc P w e cs → ∃ x, cs = en x ∧ R x) (h : Opn enc P w t [c]) :
    ∃ (A : Option Addr) (cap : Nat) (l : List α), c = .slice A l.length cap ∧ l.length ≤ cap ∧ cap * P.bytesOf e ≤ 140737488355328 ∧ (∀ x ∈ l, R x) ∧ SlAt en size w A l := by
  obtain ⟨n, d, ps, h, hw⟩ := h
  have e2 : reachBytes = 140737488351232 := rfl
  rcases Deep.open_slice ht h with ⟨h1, _⟩ | ⟨a, len, cap, m, n, D, Pl, h1, _, hlc, hcm, hm, hd, hx⟩
  · refine ⟨none, 0, [], by simpa using h1, by simp, by simp, by simp, ⟨fun h => absurd rfl h⟩⟩
  · simp only [if_true] at hm
    simp only [Prod.mk.injEq] at hd
    obtain ⟨rfl, _⟩ := hd
    rw [DataW.weights, ht] at hw
    simp only [List.length_map, List.length_range] at hw
    have hcap := hw _ (List.mem_cons_self ..)
    rw [show len + (m - len) = cap by omega] at hcap
    obtain ⟨X, hX⟩ := Deep.choose_lt (n := len) (p := fun i (x : α) => w.cells? 0 (a.add (i * P.cellsOf e)) (P.cellsOf e) = some (en x) ∧ R x) (fun i hi => by
      obtain ⟨cs, h2, h3⟩ := hx i (by omega)
      obtain ⟨x, rfl, hr⟩ := each cs ⟨n, D i, Pl i, h3, fun k hk => hw k (List.mem_cons_of_mem _ (List.mem_append_left _ (mem_weightsAll hk _ (List.mem_map.2 ⟨i, List.mem_range.2 hi, rfl⟩))))⟩
      exact ⟨x, h2, hr⟩)
    refine ⟨some a, cap, (List.range len).map X, by simpa using h1, by simp; omega, by omega, fun s hs => ?_, ⟨fun hn => ?_⟩⟩
    · obtain ⟨i, hi, rfl⟩ := List.mem_map.1 hs
      exact (hX i (List.mem_range.1 hi)).2
    · have hpos : 0 < len := by
        rcases Nat.eq_zero_or_pos len with h0 | h0
        · exact absurd (by rw [h0]; rfl) hn
        · exact h0
      have hs : a = ⟨a.block, a.off, none⟩ := by
        obtain ⟨_, _, h2⟩ := World.cells?_some (hX 0 hpos).1
        have h3 := h2 0 (by omega)
        rw [List.getElem?_eq_getElem (by rw [hen]; omega)] at h3
        refine spot_none (w := w) (v := (en (X 0))[0]'(by rw [hen]; omega)) ?_
        simpa [Addr.add] using h3
      refine ⟨a.block, a.off, by rw [← hs], fun j s hj k v hv => ?_⟩
      have hjl : j < len := by
        have := (List.getElem?_eq_some_iff.1 hj).1
        simpa using this
      rw [List.getElem?_map, List.getElem?_range hjl] at hj
      simp only [Option.map_some, Option.some.injEq] at hj
      subst hj
      obtain ⟨_, _, h2⟩ := World.cells?_some (hX j hjl).1
      have hk : k < size := by rw [← hen (X j)]; exact (List.getElem?_eq_some_iff.1 hv).1
      have h3 := h2 k (by omega)
      rw [hv, hs, add_plain, add_plain, hc] at h3
      exact h3
end
end
end V
end Go.Proofs.YtajgbepghniciaaGreatDoor
