/- Results that lie in memory. Program-independent. -/
import Derived.Test.YtajgbepghniciaaGreatDoorD
namespace Go.Proofs.YtajgbepghniciaaGreatDoor
open Go.RowKit
namespace V
def resC (P : Program) (ρ : Nat → Value) (w : World) : List ResultVar → (List Value → Prop) → Prop
  | [], K => K []
  | .tmp t :: l, K => force (ρ t) fun v => resC P ρ w l fun vs => K (v :: vs)
  | .cell c ty :: l, K => loadV P ty (ρ c) w fun v => resC P ρ w l fun vs => K (v :: vs)
def one (vs : List Value) : Value :=
  match vs with
  | [v] => v
  | l => .tuple l.toArray
theorem loadVar_ok {P : Program} {w : World} {t : TypeId} {x : Value} {K : Value → Prop} (h : loadV P t x w K) : ∃ v, (do loadVar t (← asAddr x) : Sem Value).run P w = .ok v w ∧ K v := by
  unfold loadV at h
  split at h
  · rename_i d b off hu
    cases ha : aggD d <;> rw [ha] at h
    · obtain ⟨v, hv, hk⟩ := h
      rw [force_eq] at hk
      refine ⟨v, ?_, hk⟩
      simp [asAddr, loadVar, run_isAgg hu, ha, go_sem, hv]
    · cases hT : hasT P t <;> rw [hT] at h
      · exact h.elim
      · obtain ⟨cs, hl, hc, hk⟩ := h
        rw [forceL_eq] at hk
        refine ⟨_, ?_, hk⟩
        have := run_loadCells_list (P := P) w ⟨b, off, none⟩ cs (fun j v hv => by
          have hj : j < cs.length := by
            rcases Nat.lt_or_ge j cs.length with h | h
            · exact h
            · rw [List.getElem?_eq_none h] at hv; cases hv
          rw [add_plain, hc j (by omega)]; exact hv)
        simp [asAddr, loadVar, run_isAgg hu, ha, run_sizeOf hT, ← hl, this]
  · exact h.elim
theorem resC_ok {P : Program} {ρ : Nat → Value} {w : World} {tmps : Array Value} (hρ : ∀ t, tmps.getD t undef = ρ t) (l : List ResultVar) : ∀ K : List Value → Prop, resC P ρ w l K →
    ∃ vs, (l.mapM (resF tmps)).run P w = .ok vs w ∧ K vs := by
  induction l with
  | nil => intro K h; exact ⟨[], by simp, h⟩
  | cons x l ih =>
    intro K h
    cases x with
    | tmp t =>
      simp only [resC, force_eq] at h
      obtain ⟨vs, h1, h2⟩ := ih _ h
      exact ⟨ρ t :: vs, by rw [List.mapM_cons]; simp only [Sem.run_bind, resF, Sem.run_pure, Result.andThen_ok, hρ]; rw [h1]; rfl, h2⟩
    | cell c ty =>
      simp only [resC] at h
      obtain ⟨v, hv, hk⟩ := loadVar_ok h
      obtain ⟨vs, h1, h2⟩ := ih _ hk
      refine ⟨v :: vs, ?_, h2⟩
      have e : resF tmps (.cell c ty) = (do loadVar ty (← asAddr (ρ c))) := by rw [← hρ]; rfl
      rw [List.mapM_cons, Sem.run_bind, e, hv, Result.andThen_ok, Sem.run_bind, h1]; rfl
theorem res_any {P : Program} {n : Nat} {fn : Func} {ρ : Nat → Value} {w : World} {R : Value → World → Prop} (h : resC P ρ w fn.results.toList fun vs => R (one vs) w) :
    ∀ a, St n ρ a → ∃ v, (results fn a.tmps).run P w = .ok v w ∧ R v w := by
  intro a ha
  obtain ⟨vs, h1, h2⟩ := resC_ok ha.get fn.results.toList _ h
  refine ⟨one vs, ?_, h2⟩
  have e : results fn a.tmps = (do let vs ← fn.results.mapM (resF a.tmps); pure (if h : vs.size = 1 then vs[0] else .tuple vs)) := by
    unfold results; congr 1
  rw [e, Array.mapM_eq_mapM_toList]
  simp [h1]
  match vs with
  | [v] => rfl
  | [] => rfl
  | v :: u :: l => simp [one]
end V
end Go.Proofs.YtajgbepghniciaaGreatDoor
