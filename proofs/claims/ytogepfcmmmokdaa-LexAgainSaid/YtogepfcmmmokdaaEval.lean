/-
  The tokens of the chapter's example, computed.
-/
import Derived.Test.YtogepfcmmmokdaaTokens
namespace Go.Proofs.Ytogepfcmmmokdaa
open Go.RowKit

def runF (p : Int → Bool) (s : ByteArray) : Nat → Nat → Nat
  | 0, k => k
  | n + 1, k => if p (bt s k) = true then runF p s n (k + 1) else k

theorem runP_eval (p : Int → Bool) (s : ByteArray) : ∀ (n k : Nat), s.size - k = n → k ≤ s.size → runP p s k = runF p s n k
  | 0, k, h, hk => by rw [runP_stop fun h' => absurd h' (by omega)]; rfl
  | n + 1, k, h, hk => by
    rw [runF]
    by_cases hp : p (bt s k) = true
    · rw [if_pos hp, runP_go (by omega) hp, runP_eval p s n (k + 1) (by omega) (by omega)]
    · rw [if_neg hp, runP_stop fun _ => by simpa using hp]

def ex : ByteArray := ⟨#[109, 97, 116, 99, 104, 32, 40, 97, 41]⟩

theorem reserved_eval (s : ByteArray) : Plain.reserved s = decide (s.data.toList.map Plain.upB ∈ Plain.words.map fun w => w.data.toList) := by
  unfold Plain.reserved
  congr 1
  rw [Plain.upper_list, ByteArray.toList_eq, show (fun w : ByteArray => w.toList) = fun w => w.data.toList from funext ByteArray.toList_eq]

theorem ex_run (p : Int → Bool) (k : Nat) (hk : k ≤ 9) : runP p ex k = runF p ex (9 - k) k := runP_eval p ex (9 - k) k rfl hk

theorem tokens_ex : ∃ t1 t2 t3 : Tok, tokens ex = .done [⟨1, 0, 5, 0, ⟨#[77, 65, 84, 67, 72]⟩⟩, t1, t2, t3, ⟨0, 9, 0, 0, ⟨#[]⟩⟩] := by
  have r0 : runP spaceB ex 0 = 0 := by rw [ex_run _ 0 (by omega)]; decide +kernel
  have r5 : runP spaceB ex 5 = 6 := by rw [ex_run _ 5 (by omega)]; decide +kernel
  have r7 : runP spaceB ex 7 = 7 := by rw [ex_run _ 7 (by omega)]; decide +kernel
  have r8 : runP spaceB ex 8 = 8 := by rw [ex_run _ 8 (by omega)]; decide +kernel
  have r9 : runP spaceB ex 9 = 9 := by rw [ex_run _ 9 (by omega)]; decide +kernel
  have q0 : runP wordB ex 0 = 5 := by rw [ex_run _ 0 (by omega)]; decide +kernel
  have q7 : runP wordB ex 7 = 8 := by rw [ex_run _ 7 (by omega)]; decide +kernel
  have s0 : stepR ex 0 = .ok ⟨1, 0, 5, 0, ⟨#[77, 65, 84, 67, 72]⟩⟩ 5 := by
    rw [stepR, if_pos (by decide +kernel)]
    simp only [wordR, q0]
    rw [if_pos (by rw [reserved_eval]; decide +kernel)]
    rfl
  have s6 : ∃ t, stepR ex 6 = .ok t 7 := by
    rw [stepR, if_neg (by decide +kernel), if_neg (by decide +kernel), if_neg (by decide +kernel), signR, if_neg (by rw [ByteArray.toList_eq]; decide +kernel), if_pos (by rw [ByteArray.toList_eq]; decide +kernel)]
    exact ⟨_, rfl⟩
  have s7 : ∃ t, stepR ex 7 = .ok t 8 := by
    rw [stepR, if_pos (by decide +kernel)]
    simp only [wordR, q7]
    rw [if_neg (by rw [reserved_eval]; decide +kernel), if_neg (by decide +kernel)]
    exact ⟨_, rfl⟩
  have s8 : ∃ t, stepR ex 8 = .ok t 9 := by
    rw [stepR, if_neg (by decide +kernel), if_neg (by decide +kernel), if_neg (by decide +kernel), signR, if_neg (by rw [ByteArray.toList_eq]; decide +kernel), if_pos (by rw [ByteArray.toList_eq]; decide +kernel)]
    exact ⟨_, rfl⟩
  obtain ⟨t1, s6⟩ := s6
  obtain ⟨t2, s7⟩ := s7
  obtain ⟨t3, s8⟩ := s8
  refine ⟨t1, t2, t3, ?_⟩
  have hsz : ex.size = 9 := rfl
  rw [tokens, if_neg (by rw [hsz]; omega), hsz]
  simp only [lexGo, r0, s0, r5, s6, r7, s7, r8, s8, r9, hsz]
  simp [endTok, hsz]

theorem null_yes : Plain.reserved ⟨#[78, 117, 108, 108]⟩ = true := by rw [reserved_eval]; decide +kernel
theorem nul_no : Plain.reserved ⟨#[110, 117, 108]⟩ = false := by rw [reserved_eval]; decide +kernel

end Go.Proofs.Ytogepfcmmmokdaa
