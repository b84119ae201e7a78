/-
  Whatever is carried out, the count of draws does not go down.
-/
import Derived.Test.YtkonafdbfciikaaV1
import Derived.Laws.AppendOwn
import Derived.Sort.OwnSortedInts
namespace Go.Proofs.Ytkonafdbfciikaa
open Go.RowKit Go.Shelf Go.Proofs Go.Sort

theorem exc_bind {ε α β : Type} {x : Except ε α} {f : α → Except ε β} {r : β} (h : (x >>= f) = .ok r) : ∃ a, x = .ok a ∧ f a = .ok r := by
  cases x with
  | error e => cases h
  | ok a => exact ⟨a, rfl, h⟩
theorem throw_no {α : Type} {m : String} {r : α} (h : (MonadExcept.throw m : Except String α) = .ok r) : False := by
  have h2 : (Except.error m : Except String α) = .ok r := h
  cases h2
theorem drawn_view {p : Program} {w : World} {at_ : Addr} {u : TypeId} {k : Addr} {v : Value} {atomic : Bool} {r : World × List Addr} (h : w.viewStore p at_ u k v atomic = .ok r) : r.1.drawn = w.drawn := by
  unfold World.viewStore at h
  repeat' first
    | (exfalso; exact throw_no h)
    | (cases h; rfl)
    | (obtain ⟨_, h', h⟩ := exc_bind h; try (exfalso; exact throw_no h'))
    | split at h
    | dsimp only at h
theorem drawn_far {p : Program} {w : World} {a : Addr} {v : Value} {atomic : Bool} {r : World × List Addr} (h : w.farStore p a v atomic = .ok r) : r.1.drawn = w.drawn := by
  unfold World.farStore at h
  split at h
  · split at h
    · rename_i h2
      injection h with h
      rw [← h]
      exact drawn_view h2
    · cases h
  · cases h
theorem drawn_ask {α : Type} : ∀ (s : Ask α) (w : World), w.drawn ≤ (w.ask s).2.drawn := by
  intro s
  induction s with
  | done a => intro w; exact Nat.le_refl _
  | ask what range k ih =>
    intro w
    unfold World.ask
    dsimp only
    split
    · exact ih _ w
    · have e := ih ((Question.extern what range).cut (w.tape w.drawn (Question.extern what range))) { w with drawn := w.drawn + 1 }
      exact Nat.le_trans (Nat.le_succ _) e
theorem drawn_sys (w : World) (c : Sys) : w.drawn ≤ (w.sys c).2.drawn := by
  have h := drawn_ask (Kernel.perform c w.os) w
  unfold World.sys
  split
  · exact Nat.le_refl _
  · rename_i r os w' _ e
    rw [e] at h
    exact h
theorem drawn_run {α : Type} (p : Program) : ∀ (s : Sem α) (w : World) (a : α) (w' : World), s.run p w = .ok a w' → w.drawn ≤ w'.drawn := by
  intro s
  induction s with
  | pure a => intro w a' w' h; simp only [Sem.run] at h; injection h with _ h; rw [h]; exact Nat.le_refl _
  | load m a k ih =>
    intro w a' w' h
    simp only [Sem.run] at h
    split at h
    · exact ih _ _ _ _ h
    · split at h
      · exact ih _ _ _ _ h
      · cases h
  | store m a v k ih =>
    intro w a' w' h
    cases v <;> simp only [Sem.run] at h <;> first
      | (exfalso; cases h; done)
      | (split at h
         · split at h
           · cases h
           · have e2 := ih _ _ _ h; exact e2
         · split at h
           · rename_i h2
             have e1 := drawn_far h2
             have e2 := ih _ _ _ h
             simp only at e1
             omega
           · cases h)
  | new o k ih => intro w a' w' h; simp only [Sem.run] at h; exact ih w.heap.size { w with heap := w.heap.push o } _ _ h
  | shape r k ih => intro w a' w' h; simp only [Sem.run] at h; exact ih _ _ _ _ h
  | freeze a n k ih =>
    intro w a' w' h
    simp only [Sem.run] at h
    have := ih _ _ _ h
    have e : (w.freeze a n).drawn = w.drawn := by unfold World.freeze; split <;> rfl
    omega
  | frozen a k ih => intro w a' w' h; simp only [Sem.run] at h; exact ih _ _ _ _ h
  | getObj r k ih =>
    intro w a' w' h
    simp only [Sem.run] at h
    split at h
    · cases h
    · exact ih _ _ _ _ h
    · cases h
  | setObj r o k ih =>
    intro w a' w' h
    simp only [Sem.run] at h
    split at h
    · cases h
    · exact ih { w with heap := w.heap.setIfInBounds r o } _ _ h
    · cases h
  | choose q k ih =>
    intro w a' w' h
    simp only [Sem.run] at h
    split at h
    · exact ih _ _ _ _ h
    · have := ih (q.cut (w.tape w.drawn q)) { w with drawn := w.drawn + 1 } _ _ h
      simp only at this
      omega
  | sys c k ih =>
    intro w a' w' h
    simp only [Sem.run] at h
    have := ih _ _ _ _ h
    have := drawn_sys w c
    omega
  | program k ih => intro w a' w' h; simp only [Sem.run] at h; exact ih _ _ _ _ h
  | mark _ k ih => intro w a' w' h; simp only [Sem.run] at h; exact ih _ _ _ h
  | halt h => intro w a' w' h; simp only [Sem.run] at h; cases h
end Go.Proofs.Ytkonafdbfciikaa
