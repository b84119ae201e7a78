/-
  Plain: the tokens of a reserved word.
-/
import Derived.Test.YtogepfcmmmokdaaTokens
import Derived.Test.YtogepfcmmmokdaaLaw1
namespace Go.Proofs.Ytogepfcmmmokdaa
open Go.RowKit

theorem words_letters : ∀ w ∈ Plain.words.map (fun w => w.data.toList), ∀ b ∈ w, 65 ≤ b.toNat ∧ b.toNat ≤ 90 := by decide +kernel

theorem reserved_letters {s : ByteArray} (h : Plain.reserved s = true) {j : Nat} (hj : j < s.size) : letterB (bt s j) = true := by
  rw [reserved_eval] at h
  have h1 := of_decide_eq_true h
  have hj' : j < s.data.toList.length := by simpa using hj
  have h2 := words_letters _ h1 (Plain.upB (s.data.toList[j])) (List.mem_map.2 ⟨_, List.getElem_mem hj', rfl⟩)
  rw [Plain.upB_toNat] at h2
  have e : bt s j = (s.data.toList[j]).toNat := by
    unfold bt
    rw [List.getD_eq_getElem?_getD, List.getElem?_eq_getElem hj']
    rfl
  rw [← e] at h2
  unfold Plain.upN at h2
  unfold letterB
  rw [Bool.or_eq_true, decide_eq_true_eq, decide_eq_true_eq]
  split at h2 <;> omega

theorem runP_full {p : Int → Bool} {s : ByteArray} (h : ∀ j, j < s.size → p (bt s j) = true) : ∀ (n k : Nat), s.size - k = n → k ≤ s.size → runP p s k = s.size
  | 0, k, hn, hk => by
    rw [runP_stop fun h' => absurd h' (by omega)]; omega
  | n + 1, k, hn, hk => by
    rw [runP_go (by omega) (h k (by omega))]
    exact runP_full h n (k + 1) (by omega) (by omega)

theorem letter_no_space {c : Nat} (h : letterB c = true) : spaceB c = false := by
  unfold letterB at h
  rw [Bool.or_eq_true, decide_eq_true_eq, decide_eq_true_eq] at h
  unfold spaceB
  exact decide_eq_false (by omega)

theorem upper_upper (s : ByteArray) : Plain.upper (Plain.upper s) = Plain.upper s := by
  unfold Plain.upper
  simp [Plain.upB_upB, Function.comp_def]

theorem extract_all (s : ByteArray) : s.extract 0 s.size = s := by
  ext1
  simp

def wordTok (s : ByteArray) : Tok := ⟨1, 0, s.size, 0, Plain.upper s⟩

theorem tokens_word {s : ByteArray} (h : Plain.reserved s = true) (hs : s.size ≤ 2000) : tokens s = .done [wordTok s, endTok s] := by
  have h0 : 0 < s.size := by
    rcases Nat.eq_zero_or_pos s.size with h1 | h1
    · have : s.toList = [] := by
        rw [ByteArray.toList_eq]
        exact List.length_eq_zero_iff.1 (by simpa using h1)
      rw [Plain.reserved_empty this] at h
      cases h
    · exact h1
  have hl := reserved_letters h h0
  rw [tokens, if_neg (by omega)]
  obtain ⟨m, hm⟩ : ∃ m, s.size = m + 1 := ⟨s.size - 1, by omega⟩
  have e0 : runP spaceB s 0 = 0 := runP_stop fun _ => letter_no_space hl
  have ew : runP wordB s 0 = s.size := runP_full (fun j hj => by unfold wordB; rw [reserved_letters h hj]; rfl) _ 0 rfl (Nat.zero_le _)
  have ee : runP spaceB s s.size = s.size := runP_stop fun h' => absurd h' (by omega)
  have hst : stepR s 0 = .ok (wordTok s) s.size := by
    rw [stepR, if_pos hl]
    simp only [wordR, ew, extract_all]
    rw [if_pos h]
    simp [wordTok]
  rw [lexGo, e0, if_neg (by omega), hst]
  simp only []
  rw [hm, lexGo, ← hm, ee, if_pos rfl]
  rfl

theorem tokens_upper {s : ByteArray} (h : Plain.reserved s = true) (hs : s.size ≤ 2000) : tokens (Plain.upper s) = .done [wordTok s, endTok s] := by
  rw [tokens_word (by rw [Plain.reserved_upper]; exact h) (by rw [Plain.upper_size]; exact hs)]
  unfold wordTok endTok
  rw [upper_upper, Plain.upper_size]

end Go.Proofs.Ytogepfcmmmokdaa
