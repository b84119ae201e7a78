/-
  From the contract of a law to its call. Own work; no program in sight.
-/
import Derived.Test.YtankjfiaajpfoaaDoorAm25
namespace Go.Proofs.YtankjfiaajpfoaaDoor
open Go.RowKit

section
variable {P : Program} {G : Nat → AV} {f : FuncId} {w : World} (hG : ∀ g, RepD w (fun _ => False) (.pointer (some ⟨g, 0, none⟩)) (G g))
include hG

theorem calls0 {b : Bool} (h : PureOK P G f (spec0 (.bool b))) : Calls P f #[] w fun e w' => e = .returned (.bool b) ∧ Below w.heap.size w w' :=
  calls_of_pure h (avs := []) (ob := True) hG (fun j u hu => by simp at hu) rfl rfl trivial

theorem calls1 {α : Type} [Enc α] {pre : α → Prop} {b : Bool} (h : PureOK P G f (spec1 pre fun _ => .bool b)) {v0 : Value} {a0 : α} (r0 : RepD w (fun _ => False) v0 (Enc.enc a0)) (n0 : nrmV (Enc.enc a0) = Enc.enc a0) (hp : pre a0) :
    Calls P f #[v0] w fun e w' => e = .returned (.bool b) ∧ Below w.heap.size w w' :=
  calls_of_pure h (avs := [Enc.enc a0]) (ob := nrmV (Enc.enc a0) = Enc.enc a0 ∧ pre a0) hG (arg1 r0) rfl (by simp only [spec1, Enc.dec_enc]) ⟨n0, hp⟩

theorem calls2 {α β : Type} [Enc α] [Enc β] {pre : α → β → Prop} {b : Bool} (h : PureOK P G f (spec2 pre fun _ _ => .bool b)) {v0 v1 : Value} {a0 : α} {a1 : β} (r0 : RepD w (fun _ => False) v0 (Enc.enc a0)) (r1 : RepD w (fun _ => False) v1 (Enc.enc a1))
    (n0 : nrmV (Enc.enc a0) = Enc.enc a0) (n1 : nrmV (Enc.enc a1) = Enc.enc a1) (hp : pre a0 a1) : Calls P f #[v0, v1] w fun e w' => e = .returned (.bool b) ∧ Below w.heap.size w w' :=
  calls_of_pure h (avs := [Enc.enc a0, Enc.enc a1]) (ob := nrmV (Enc.enc a0) = Enc.enc a0 ∧ nrmV (Enc.enc a1) = Enc.enc a1 ∧ pre a0 a1) hG (arg2 r0 r1) rfl (by simp only [spec2, Enc.dec_enc]) ⟨n0, n1, hp⟩

theorem calls3 {α β γ : Type} [Enc α] [Enc β] [Enc γ] {pre : α → β → γ → Prop} {b : Bool} (h : PureOK P G f (spec3 pre fun _ _ _ => .bool b)) {v0 v1 v2 : Value} {a0 : α} {a1 : β} {a2 : γ} (r0 : RepD w (fun _ => False) v0 (Enc.enc a0)) (r1 : RepD w (fun _ => False) v1 (Enc.enc a1)) (r2 : RepD w (fun _ => False) v2 (Enc.enc a2))
    (n0 : nrmV (Enc.enc a0) = Enc.enc a0) (n1 : nrmV (Enc.enc a1) = Enc.enc a1) (n2 : nrmV (Enc.enc a2) = Enc.enc a2) (hp : pre a0 a1 a2) : Calls P f #[v0, v1, v2] w fun e w' => e = .returned (.bool b) ∧ Below w.heap.size w w' :=
  calls_of_pure h (avs := [Enc.enc a0, Enc.enc a1, Enc.enc a2]) (ob := nrmV (Enc.enc a0) = Enc.enc a0 ∧ nrmV (Enc.enc a1) = Enc.enc a1 ∧ nrmV (Enc.enc a2) = Enc.enc a2 ∧ pre a0 a1 a2) hG (arg3 r0 r1 r2) rfl (by simp only [spec3, Enc.dec_enc]) ⟨n0, n1, n2, hp⟩

theorem calls4 {α β γ δ : Type} [Enc α] [Enc β] [Enc γ] [Enc δ] {pre : α → β → γ → δ → Prop} {b : Bool} (h : PureOK P G f (spec4 pre fun _ _ _ _ => .bool b)) {v0 v1 v2 v3 : Value} {a0 : α} {a1 : β} {a2 : γ} {a3 : δ} (r0 : RepD w (fun _ => False) v0 (Enc.enc a0)) (r1 : RepD w (fun _ => False) v1 (Enc.enc a1)) (r2 : RepD w (fun _ => False) v2 (Enc.enc a2)) (r3 : RepD w (fun _ => False) v3 (Enc.enc a3))
    (n0 : nrmV (Enc.enc a0) = Enc.enc a0) (n1 : nrmV (Enc.enc a1) = Enc.enc a1) (n2 : nrmV (Enc.enc a2) = Enc.enc a2) (n3 : nrmV (Enc.enc a3) = Enc.enc a3) (hp : pre a0 a1 a2 a3) : Calls P f #[v0, v1, v2, v3] w fun e w' => e = .returned (.bool b) ∧ Below w.heap.size w w' :=
  calls_of_pure h (avs := [Enc.enc a0, Enc.enc a1, Enc.enc a2, Enc.enc a3]) (ob := nrmV (Enc.enc a0) = Enc.enc a0 ∧ nrmV (Enc.enc a1) = Enc.enc a1 ∧ nrmV (Enc.enc a2) = Enc.enc a2 ∧ nrmV (Enc.enc a3) = Enc.enc a3 ∧ pre a0 a1 a2 a3) hG (arg4 r0 r1 r2 r3) rfl (by simp only [spec4, Enc.dec_enc]) ⟨n0, n1, n2, n3, hp⟩
end
end Go.Proofs.YtankjfiaajpfoaaDoor
