/-
  The program's test for a reserved word (a search in one text) is the reference's (a search in a list). Plain lists of bytes.
-/
import Derived.Test.YthcfnaglgoaikaaGreatPlain
import Derived.Lib.IndexMore
import Derived.Laws.Strings
namespace Go.Proofs.YthcfnaglgoaikaaGreat.Plain
open Go.Lib

theorem index_ge (sub : List UInt8) : ∀ l : List UInt8, -1 ≤ index l sub
  | [] => by unfold index; split <;> decide
  | b :: l => by
    have := index_ge sub l
    unfold index
    split
    · decide
    · split
      · decide
      · omega

theorem contains_iff (sub : List UInt8) : ∀ l : List UInt8, contains l sub = true ↔ ∃ a b, l = a ++ sub ++ b
  | [] => by
    unfold contains index
    cases sub with
    | nil => simp
    | cons x r => simp
  | c :: l => by
    have ih := contains_iff sub l
    have hge := index_ge sub l
    unfold contains at ih ⊢
    unfold index
    by_cases hp : sub.isPrefixOf (c :: l) = true
    · rw [if_pos hp]
      rw [List.isPrefixOf_iff_prefix] at hp
      obtain ⟨t, ht⟩ := hp
      simp only [Int.le_refl, decide_true, true_iff]
      exact ⟨[], t, by simpa using ht.symm⟩
    · rw [if_neg hp]
      have e : (decide (0 ≤ if (index l sub == -1) = true then (-1 : Int) else index l sub + 1) = true) ↔ (decide (0 ≤ index l sub) = true) := by
        by_cases h1 : index l sub = -1
        · simp [h1]
        · have : 0 ≤ index l sub := by omega
          simp [h1, this]
          omega
      rw [e, ih]
      constructor
      · rintro ⟨a, b, h⟩
        exact ⟨c :: a, b, by rw [h]; simp⟩
      · rintro ⟨a, b, h⟩
        cases a with
        | nil =>
          exfalso
          apply hp
          rw [List.isPrefixOf_iff_prefix]
          exact ⟨b, by simpa using h.symm⟩
        | cons x a =>
          simp only [List.cons_append, List.cons.injEq] at h
          exact ⟨a, b, h.2⟩

/-- The words between blanks. -/
def spread : List (List UInt8) → List UInt8
  | [] => [32]
  | w :: r => 32 :: (w ++ spread r)

theorem spread_head : ∀ ws : List (List UInt8), ∃ t, spread ws = 32 :: t
  | [] => ⟨[], rfl⟩
  | _ :: _ => ⟨_, rfl⟩

theorem no_split : ∀ {u w t b : List UInt8}, (32 : UInt8) ∉ u → (32 : UInt8) ∉ w → u ++ 32 :: b = w ++ 32 :: t → u = w
  | [], [], _, _, _, _, _ => rfl
  | [], y :: w, _, _, _, hw, h => by
    simp only [List.nil_append, List.cons_append, List.cons.injEq] at h
    exact absurd (by simp [h.1]) hw
  | x :: u, [], _, _, hu, _, h => by
    simp only [List.nil_append, List.cons_append, List.cons.injEq] at h
    exact absurd (by simp [h.1]) hu
  | x :: u, y :: w, _, _, hu, hw, h => by
    simp only [List.cons_append, List.cons.injEq] at h
    rw [h.1, no_split (fun h => hu (List.mem_cons_of_mem _ h)) (fun h => hw (List.mem_cons_of_mem _ h)) h.2]

theorem skip_word : ∀ {w a t s : List UInt8}, (32 : UInt8) ∉ w → a ++ 32 :: t = w ++ s → ∃ a', a' ++ 32 :: t = s
  | [], a, t, s, _, h => ⟨a, by simpa using h⟩
  | y :: w, [], t, s, hw, h => by
    simp only [List.nil_append, List.cons_append, List.cons.injEq] at h
    exact absurd (by simp [h.1]) hw
  | y :: w, x :: a, t, s, hw, h => by
    simp only [List.cons_append, List.cons.injEq] at h
    exact skip_word (fun h => hw (List.mem_cons_of_mem _ h)) h.2

theorem spread_iff (u : List UInt8) (hu : u ≠ []) (hu32 : (32 : UInt8) ∉ u) : ∀ ws : List (List UInt8), (∀ w ∈ ws, (32 : UInt8) ∉ w) → ((∃ a b, spread ws = a ++ ([32] ++ u ++ [32]) ++ b) ↔ u ∈ ws)
  | [], _ => by
    simp only [List.not_mem_nil, iff_false]
    rintro ⟨a, b, h⟩
    have := congrArg List.length h
    simp [spread] at this
    have : u.length ≠ 0 := fun h => hu (List.length_eq_zero_iff.1 h)
    omega
  | w :: r, hws => by
    have ih := spread_iff u hu hu32 r (fun x hx => hws x (List.mem_cons_of_mem _ hx))
    have hw := hws w (by simp)
    obtain ⟨t, ht⟩ := spread_head r
    constructor
    · rintro ⟨a, b, h⟩
      cases a with
      | nil =>
        simp only [spread, ht, List.nil_append, List.cons_append, List.append_assoc, List.cons.injEq, true_and] at h
        have := no_split hu32 hw h.symm
        simp [this]
      | cons x a =>
        simp only [spread, List.cons_append, List.append_assoc, List.cons.injEq] at h
        obtain ⟨a', ha'⟩ := skip_word (a := a) (t := u ++ ([32] ++ b)) hw (by simpa using h.2.symm)
        refine List.mem_cons_of_mem _ (ih.1 ⟨a', b, ?_⟩)
        rw [← ha']
        simp
    · intro h
      rcases List.mem_cons.1 h with rfl | h
      · exact ⟨[], t, by simp [spread, ht]⟩
      · obtain ⟨a, b, hab⟩ := ih.2 h
        exact ⟨32 :: (w ++ a), b, by simp [spread, hab]⟩

/-- The program's text of the reserved words. -/
def text : List UInt8 := spread (words.map fun w => w.toList)

theorem upB_32 {b : UInt8} (h : upB b = 32) : b = 32 := by
  have h1 : upN b.toNat = 32 := by rw [← upB_toNat, h]; rfl
  unfold upN at h1
  have : b.toNat = 32 := by
    split at h1
    · omega
    · exact h1
  exact UInt8.toNat_inj.1 this

theorem upper_list (s : ByteArray) : (upper s).toList = s.toList.map upB := by
  rw [ByteArray.toList_eq, ByteArray.toList_eq]
  rfl

theorem words_clean : ∀ w ∈ words.map (fun w => w.toList), (32 : UInt8) ∉ w := by
  have h : (words.map fun w => w.data.toList).all (fun w => !w.contains 32) = true := by decide
  intro w hw
  have e : (fun w : ByteArray => w.toList) = fun w => w.data.toList := funext ByteArray.toList_eq
  rw [e] at hw
  have := List.all_eq_true.1 h w hw
  simpa using this

/-- The search in the text is the search in the list. -/
theorem reserved_text {s : ByteArray} (h0 : s.toList ≠ []) (h1 : (32 : UInt8) ∉ s.toList) : contains text ([32] ++ (upper s).toList ++ [32]) = reserved s := by
  rw [Bool.eq_iff_iff, contains_iff]
  unfold text reserved
  rw [decide_eq_true_iff]
  refine spread_iff _ ?_ ?_ _ words_clean
  · rw [upper_list]; simpa using h0
  · rw [upper_list]
    intro h
    obtain ⟨b, hb, e⟩ := List.mem_map.1 h
    exact h1 (by rw [← upB_32 e]; exact hb)

theorem words_nonempty : ∀ w ∈ words.map (fun w => w.toList), w ≠ [] := by
  have h : (words.map fun w => w.data.toList).all (fun w => !w.isEmpty) = true := by decide
  intro w hw
  have e : (fun w : ByteArray => w.toList) = fun w => w.data.toList := funext ByteArray.toList_eq
  rw [e] at hw
  have := List.all_eq_true.1 h w hw
  simpa using this

theorem reserved_empty {s : ByteArray} (h : s.toList = []) : reserved s = false := by
  unfold reserved
  rw [decide_eq_false_iff_not, upper_list, h]
  intro hm
  exact words_nonempty _ hm rfl

theorem text_eq : (⟨#[32, 77, 65, 84, 67, 72, 32, 79, 80, 84, 73, 79, 78, 65, 76, 32, 87, 72, 69, 82, 69, 32, 85, 78, 87, 73, 78, 68, 32, 65, 83, 32, 87, 73, 84, 72, 32, 68, 73, 83, 84, 73, 78, 67, 84, 32, 79, 82, 68, 69, 82, 32, 66, 89, 32, 65, 83, 67, 32, 68, 69, 83, 67, 32, 83, 75, 73, 80, 32, 76, 73, 77, 73, 84, 32, 82, 69, 84, 85, 82, 78, 32, 67, 82, 69, 65, 84, 69, 32, 77, 69, 82, 71, 69, 32, 83, 69, 84, 32, 82, 69, 77, 79, 86, 69, 32, 68, 69, 76, 69, 84, 69, 32, 68, 69, 84, 65, 67, 72, 32, 65, 78, 68, 32, 79, 82, 32, 78, 79, 84, 32, 73, 78, 32, 73, 83, 32, 78, 85, 76, 76, 32, 84, 82, 85, 69, 32, 70, 65, 76, 83, 69, 32, 87, 65, 76, 75, 32, 84, 82, 65, 73, 76, 32, 83, 73, 77, 80, 76, 69, 32, 83, 72, 79, 82, 84, 69, 83, 84, 32, 65, 78, 89, 32]⟩ : ByteArray).toList = text := by
  unfold text
  rw [show (fun w : ByteArray => w.toList) = fun w => w.data.toList from funext ByteArray.toList_eq, ByteArray.toList_eq]
  decide +kernel

theorem upB_space : upB 32 = 32 := by decide

theorem reserved_space {s : ByteArray} (h : (32 : UInt8) ∈ s.toList) : reserved s = false := by
  unfold reserved
  rw [decide_eq_false_iff_not, upper_list]
  intro hm
  refine words_clean _ hm ?_
  exact List.mem_map.2 ⟨32, h, upB_space⟩

theorem contains_space (l : List UInt8) : contains l [32] = decide ((32 : UInt8) ∈ l) := by
  rw [Bool.eq_iff_iff, contains_iff, decide_eq_true_iff]
  constructor
  · rintro ⟨a, b, h⟩; simp [h]
  · intro h
    obtain ⟨a, b, h⟩ := List.append_of_mem h
    exact ⟨a, b, by simp [h]⟩

end Go.Proofs.YthcfnaglgoaikaaGreat.Plain
