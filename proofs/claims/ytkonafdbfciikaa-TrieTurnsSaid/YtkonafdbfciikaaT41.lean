/-
  layer 14: the columns turned, by the program.
-/
import Derived.Test.YtkonafdbfciikaaT40
namespace Go.Proofs.Ytkonafdbfciikaa
open Go.RowKit
set_option linter.unusedSimpArgs false
set_option linter.unusedVariables false
set_option maxRecDepth 100000

noncomputable def CPp : Ctx := mkC Try.prog G0 [(21, .pure sCheck), (68, .pure sValues), (67, .pure sSortedV), (19, .pure sOf)]
@[simp] theorem CPp_P : CPp.P = Try.prog := rfl
@[simp] theorem CPp_1 : CPp.S 21 = .pure sCheck := rfl
@[simp] theorem CPp_2 : CPp.S 68 = .pure sValues := rfl
@[simp] theorem CPp_3 : CPp.S 67 = .pure sSortedV := rfl
@[simp] theorem CPp_4 : CPp.S 19 = .pure sOf := rfl
theorem mixCPp : CPp.P.follows .mixedOrders = true := mixed
theorem sigCPp : SigOK CPp := sigOK_cons (entryPure checkP Try.func21 rfl (by decide)) (sigOK_cons (entryPure valuesP Try.func68 rfl (by decide)) (sigOK_cons (entryPure sortedVP Try.func67 rfl (by decide)) (sigOK_cons (entryPure ofP Try.func19 rfl (by decide)) (sigOK_nil _ _))))

theorem close_row {C : Ctx} {N h0 : Nat} {ρ : List (Nat × AV)} {a b : Blk} {L : List (List Int)} {P : List Int} {k : Nat} : Weak C N h0 ⟨ρ, [a, b, ⟨35, 1, encRows L ++ [.own 3 P.length] :: List.replicate k zR, true, false⟩, bK P]⟩ ⟨ρ, [a, b, rB 35 (encRows (L ++ [P]) ++ List.replicate k zR), ⟨3, 1, encRows P, false, true⟩]⟩ := by
  obtain ⟨a1, a2, a3, a4, a5⟩ := a
  obtain ⟨b1, b2, b3, b4, b5⟩ := b
  have hcell : ∀ r ∈ encRows L, ∃ x, r = [.slice 1 false x] := fun r hr => by obtain ⟨x, _, rfl⟩ := List.mem_map.1 hr; exact ⟨_, rfl⟩
  have w := weak_close (C := C) (N := N) (h0 := h0) (ρ := ρ) (H := [⟨a1, a2, a3, a4, a5⟩, ⟨b1, b2, b3, b4, b5⟩, ⟨35, 1, encRows L ++ [.own 3 P.length] :: List.replicate k zR, true, false⟩, bK P]) 2 rfl [3] (fun r hr c hc q hq => by
    simp only [List.mem_append, List.mem_cons, List.mem_replicate] at hr
    rcases hr with hr | rfl | ⟨_, rfl⟩
    · obtain ⟨x, rfl⟩ := hcell r hr
      simp only [List.mem_singleton] at hc
      subst hc
      simp [reach] at hq
    · simp only [List.mem_singleton] at hc
      subst hc
      simpa [reach, bK] using hq
    · simp only [zR, List.mem_singleton] at hc
      subst hc
      simp [reach] at hq) (by decide)
  have e : (encRows L ++ [AV.own 3 P.length] :: List.replicate k zR).map (fun r => r.map (view [⟨a1, a2, a3, a4, a5⟩, ⟨b1, b2, b3, b4, b5⟩, ⟨35, 1, encRows L ++ [.own 3 P.length] :: List.replicate k zR, true, false⟩, bK P] 6)) = encRows (L ++ [P]) ++ List.replicate k zR := by
    rw [List.map_append, List.map_cons, encRows_append, List.append_assoc]
    congr 1
    · refine (List.map_congr_left fun r hr => ?_).trans (List.map_id _)
      obtain ⟨x, rfl⟩ := hcell r hr
      rfl
    · rw [List.map_replicate]
      have e1 : (encRows P).length = P.length := encRows_length P
      show [view _ 6 (AV.own 3 P.length)] :: _ = [AV.slice 1 false (encRows P)] :: _
      congr 1
      simp [view, bK, e1]
  simp only [e] at w
  simpa [bK, rB] using w
end Go.Proofs.Ytkonafdbfciikaa
