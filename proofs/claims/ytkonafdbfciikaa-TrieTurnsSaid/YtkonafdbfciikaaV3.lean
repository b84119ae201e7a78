/-
  A range over slices.Values, whose invariant may speak of the count of draws; AppendSeq, Collect and Sorted again, with the count.
-/
import Derived.Test.YtkonafdbfciikaaV2
namespace Go.Proofs.Ytkonafdbfciikaa
open Go.RowKit Go.Shelf Go.Proofs Go.Sort

attribute [local go_sem] Oper.semAt_some

theorem rangeVals {F : Fence} {n : Nat} {g : Operand} {assign body : Code} {Q : Exit → Act → World → Prop} {a : Act} {w : World} (hro : F.round = none) (hn : 2 ≤ n) (h81 : F.fn 81) (Bs bo n₀ : Nat) (sv : Value) (zs : List Int) (hlen : zs.length ≤ 1000000)
    (hBs : Bs < w.heap.size) (hn₀ : n₀ ≤ w.heap.size) (hc : w.cell? ⟨Bs, bo, none⟩ = some sv) (hI0 : IntsAt n₀ w sv zs) (hg : a.eval g = .func (.func 81) #[] #[.pointer (some ⟨Bs, bo, none⟩)])
    (I : List Int → World → Prop) (hIa : ∀ s W o, I s W → I s (W.alloc o)) (hIp : ∀ s W l o o', w.heap.size ≤ l → W.heap[l]? = some o → o.isCells = false → I s W → I s (W.putObj l o')) (h0 : I [] w) (a₁ : Int → Act)
    (hassign : ∀ (l : Nat) (x : Int) (W : World) (K : Act → World → Prop), K (a₁ x) W → assign.wpIn (F.inRound l) (n - 1 - 1) Try.prog (Exit.then K (fun _ _ _ => False)) { tmps := a.tmps.setIfInBounds 7 (.int .i64 x), defers := [] } W)
    (hbody : ∀ (l : Nat) (pre : List Int) (x : Int) (W : World), I pre W → pre.length < zs.length → body.wpIn (F.inRound l) (n - 1 - 1) Try.prog (fun e _ W' => e = .normal ∧ KeepsFrom w.heap.size W W' ∧ Below n₀ W W' ∧ I (pre ++ [x]) W') (a₁ x) W)
    (hdone : ∀ (D : Nat) (W : World), w.heap.size ≤ D → I zs W → W.heap[D]? = some (.deferred (some [])) → Q .normal { a with defers := { target := .collected D, args := #[] } :: a.defers } W) :
    (Code.rangeFunc g #[7] assign body).wpIn F n Try.prog Q a w := by
  refine wpIn_rangeFunc ?_
  intro fn hfn
  rw [hro]
  obtain ⟨rec, hrec⟩ : ∃ rec : LoopState → Loop, rec = fun st => { state := st, pending := none, fn, tmps := a.tmps, params := #[7], assign, body, defers := w.heap.size } := ⟨_, rfl⟩
  obtain ⟨W1, hW1⟩ : ∃ W1, (w.alloc (.deferred (some []))).alloc (.loop (rec .ready)) = W1 := ⟨_, rfl⟩
  have b1 : Below w.heap.size w W1 := by rw [← hW1]; exact ((Below.refl _ w).alloc (Nat.le_refl _) _).alloc (by simp) _
  have hL1 : W1.heap[w.heap.size + 1]? = some (.loop (rec .ready)) := by
    rw [← hW1]; have := World.alloc_heap_new (w.alloc (.deferred (some []))) (.loop (rec .ready)); rwa [World.size_alloc] at this
  have hK1 : W1.heap[w.heap.size]? = some (.deferred (some [])) := by
    rw [← hW1]; exact (Below.heap_alloc _ _ _ (by simp)).trans (World.alloc_heap_new w _)
  have hI1 : I [] W1 := by rw [← hW1]; exact hIa _ _ _ (hIa _ _ _ h0)
  have hc1 : W1.cell? ⟨Bs, bo, none⟩ = some sv := (b1.cell (p := ⟨Bs, bo, none⟩) hBs).trans hc
  have hI2 : IntsAt n₀ W1 sv zs := hI0.below (b1.mono hn₀)
  refine ⟨w.heap.size + 1, [{ target := .collected w.heap.size, args := #[] }], W1, { target := .fn (.func 81) #[.pointer (some ⟨Bs, bo, none⟩)], args := #[.func (.yield (w.heap.size + 1)) #[] #[]] }, W1, 81,
    #[.func (.yield (w.heap.size + 1)) #[] #[]] ++ #[.pointer (some ⟨Bs, bo, none⟩)], W1, ?_, ?_, ?_, ?_, fun _ => by omega, ?_⟩
  · rw [← hW1, hrec]; exact run_enterLoop_outer _ _ _ _ _
  · simp only [resolve, hg]
    simp [go_sem]
  · intro f' hf'; simp [Target.leads] at hf'; subst hf'; exact h81
  · simp [invoke, go_sem]
  · have key : CallsIn F (n - 1) Try.prog 81 #[.func (.yield (w.heap.size + 1)) #[] #[], .pointer (some ⟨Bs, bo, none⟩)] W1 fun e W' => (∃ v, e = .returned v) ∧ I zs W' ∧ W'.heap[w.heap.size + 1]? = some (.loop (rec .ready)) ∧ W'.heap[w.heap.size]? = some (.deferred (some [])) := by
      rcases hI2 with ⟨sa, cap, rfl, rfl⟩ | ⟨b, off, cap, rfl, hb, hcs⟩
      · exact (values1_nil_in F (n - 1) h81 hro (w.heap.size + 1) Bs bo (fun pre W => I pre W ∧ W.heap[w.heap.size + 1]? = some (.loop (rec .ready)) ∧ W.heap[w.heap.size]? = some (.deferred (some []))) sa cap W1 hc1 ⟨hI1, hL1, hK1⟩).mono fun e W' h => h
      · refine (values1_in F (n - 1) h81 hro (by omega) (w.heap.size + 1) Bs bo n₀ b off zs.length cap zs rfl (by omega) hb (fun pre W => I pre W ∧ W.heap[w.heap.size + 1]? = some (.loop (rec .ready)) ∧ W.heap[w.heap.size]? = some (.deferred (some []))) (fun _ _ => False) ?_ W1 hc1 hcs ⟨hI1, hL1, hK1⟩).mono ?_
        · rintro pre x W ⟨hi, hl, hk⟩ hlt
          have hsz : w.heap.size + 1 < W.heap.size := (Array.getElem?_eq_some_iff.1 hl).1
          have hy := run_yield (P := Try.prog) (args := #[.int .i64 x]) hl (by rw [hrec]; rfl)
          rw [hrec] at hy
          refine ⟨fn, a.tmps.setIfInBounds 7 (.int .i64 x), assign, body, by simpa using hy, roundIn_of_wpIn hfn ?_⟩
          refine hassign _ x W _ ?_
          refine ⟨_, run_beginRound hl (by rw [hrec]), ?_⟩
          obtain ⟨W2, hW2⟩ : ∃ W2, W.putObj (w.heap.size + 1) (.loop { rec .ready with state := .busy }) = W2 := ⟨_, rfl⟩
          rw [hW2]
          have hl2 : W2.heap[w.heap.size + 1]? = some (.loop { rec .ready with state := .busy }) := by rw [← hW2]; exact World.putObj_heap_same hsz
          have hk2 : W2.heap[w.heap.size]? = some (.deferred (some [])) := by rw [← hW2]; exact (World.putObj_heap_other (by omega)).trans hk
          have hb2 : Below n₀ W W2 := by rw [← hW2]; exact belowK_b (w := w) hn₀ W _ _ _ (by omega) hl rfl rfl
          have hi2 : I pre W2 := by rw [← hW2]; exact hIp _ _ _ _ _ (by omega) hl rfl hi
          refine wpIn_mono (hbody _ pre x W2 hi2 hlt) ?_
          rintro e a3 W3 ⟨rfl, hk3, hb3, hi3⟩
          have hl3 := hk3.same _ _ (by omega) hl2 rfl
          have hd3 := hk3.same _ _ (Nat.le_refl _) hk2 rfl
          have hr := run_endRound (P := Try.prog) none hl3
          rw [hrec] at hr hl3 ⊢
          refine ⟨_, _, hr, .inl ⟨rfl, ⟨hIp _ _ _ _ _ (by omega) hl3 rfl hi3, World.putObj_heap_same (Array.getElem?_eq_some_iff.1 hl3).1, (World.putObj_heap_other (by omega)).trans hd3⟩, (hb2.trans hb3).trans (belowK_b (w := w) hn₀ W3 _ _ _ (by omega) hl3 rfl rfl)⟩⟩
        · rintro e W' ⟨he, ⟨ys, rfl, h⟩ | ⟨pre, _, h⟩⟩
          · exact ⟨he, h⟩
          · exact h.elim
    refine key.mono ?_
    rintro e W2 ⟨⟨v, rfl⟩, hi, hl, hk⟩
    have hr := run_endLoop (P := Try.prog) hl (by rw [hrec]; simp)
    rw [hrec] at hr
    exact ⟨none, _, hr, hdone _ _ (Nat.le_refl _) (hIp _ _ _ _ _ (by omega) hl rfl hi) ((World.putObj_heap_other (by omega)).trans hk)⟩
end Go.Proofs.Ytkonafdbfciikaa
