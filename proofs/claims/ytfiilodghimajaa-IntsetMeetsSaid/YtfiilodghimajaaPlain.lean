/-
  Plain functions on lists of integers: what package intset and its reference compute. No program in sight.
-/
namespace Go.Proofs.Ytfiilodghimajaa.Plain

/-- The least index from i on whose element is at least x, or the length. -/
def seek (zs : List Int) (i : Nat) (x : Int) : Nat :=
  if i < zs.length then i + (zs.drop i).findIdx (fun z => decide (x ≤ z)) else zs.length

theorem seek_end {zs : List Int} {i : Nat} {x : Int} (h : ¬ i < zs.length) : seek zs i x = zs.length := by simp [seek, h]

theorem seek_hit {zs : List Int} {i : Nat} {x : Int} (h : i < zs.length) (hx : x ≤ zs[i]) : seek zs i x = i := by
  simp only [seek, h, if_true]
  rw [List.drop_eq_getElem_cons h, List.findIdx_cons]
  simp [hx]

theorem seek_miss {zs : List Int} {i : Nat} {x : Int} (h : i < zs.length) (hx : ¬ x ≤ zs[i]) : seek zs i x = seek zs (i + 1) x := by
  simp only [seek, h, if_true]
  rw [List.drop_eq_getElem_cons h, List.findIdx_cons]
  simp only [hx, decide_false, cond_false]
  by_cases h1 : i + 1 < zs.length
  · simp only [h1, if_true]; omega
  · have : zs.drop (i + 1) = [] := List.drop_eq_nil_of_le (by omega)
    simp only [h1, if_false, this, List.findIdx_nil]
    omega

/-- Strictly increasing. -/
def valid (zs : List Int) : Bool := decide (zs.Pairwise (· < ·))

theorem pairwise_of_adj : ∀ (zs : List Int), (∀ i (h : i + 1 < zs.length), zs[i] < zs[i + 1]) → zs.Pairwise (· < ·)
  | [], _ => .nil
  | [_], _ => List.pairwise_singleton _ _
  | a :: b :: r, h => by
    have ih := pairwise_of_adj (b :: r) (fun i hi => h (i + 1) (by simp only [List.length_cons] at hi ⊢; omega))
    have hab : a < b := h 0 (by simp)
    refine List.Pairwise.cons (fun x hx => ?_) ih
    rcases List.mem_cons.1 hx with rfl | hx
    · exact hab
    · have := (List.pairwise_cons.1 ih).1 x hx
      omega

theorem adj_of_pairwise {zs : List Int} (h : zs.Pairwise (· < ·)) (i : Nat) (hi : i + 1 < zs.length) : zs[i] < zs[i + 1] :=
  List.pairwise_iff_getElem.1 h i (i + 1) (by omega) hi (by omega)

theorem valid_true {zs : List Int} (h : ∀ i (h : i + 1 < zs.length), zs[i] < zs[i + 1]) : valid zs = true := decide_eq_true (pairwise_of_adj zs h)
theorem valid_false {zs : List Int} {i : Nat} (hi : i + 1 < zs.length) (h : zs[i + 1] ≤ zs[i]) : valid zs = false :=
  decide_eq_false fun hp => by have := adj_of_pairwise hp i hi; omega

/-- The reference's insertion, as its loop does it. -/
def ins (x : Int) : List Int → Bool → List Int
  | [], d => if d then [] else [x]
  | y :: r, d => if x < y ∧ (d || y == x) = false then x :: y :: ins x r true else y :: ins x r (d || y == x)

theorem ins_true (x : Int) : ∀ l, ins x l true = l
  | [] => rfl
  | y :: r => by simp [ins, ins_true x r]

theorem ins_length (x : Int) : ∀ l d, (ins x l d).length ≤ l.length + 1
  | [], d => by cases d <;> simp [ins]
  | y :: r, d => by
    simp only [ins]
    split
    · simp [ins_true]
    · simpa using ins_length x r _

theorem mem_ins (x : Int) : ∀ l d z, z ∈ ins x l d ↔ z ∈ l ∨ (d = false ∧ z = x)
  | [], d, z => by cases d <;> simp [ins]
  | y :: r, d, z => by
    simp only [ins]
    split
    · rename_i h
      have hd : d = false := by
        cases d
        · rfl
        · simp at h
      simp only [ins_true, List.mem_cons, hd, true_and]
      constructor
      · rintro (h | h | h) <;> simp_all
      · rintro ((h | h) | h) <;> simp_all
    · simp only [List.mem_cons, mem_ins x r, Bool.or_eq_false_iff, beq_eq_false_iff_ne]
      constructor
      · rintro (h | h | h)
        · exact .inl (.inl h)
        · exact .inl (.inr h)
        · exact .inr ⟨h.1.1, h.2⟩
      · rintro ((h | h) | ⟨h1, h2⟩)
        · exact .inl h
        · exact .inr (.inl h)
        · by_cases e : y = x
          · exact .inl (by omega)
          · exact .inr (.inr ⟨⟨h1, e⟩, h2⟩)

theorem ins_sorted (x : Int) : ∀ l d, l.Pairwise (· < ·) → (ins x l d).Pairwise (· < ·)
  | [], d, _ => by cases d <;> simp [ins]
  | y :: r, d, h => by
    have hr := List.pairwise_cons.1 h
    simp only [ins]
    split
    · rename_i hx
      rw [ins_true]
      refine List.Pairwise.cons (fun z hz => ?_) h
      rcases List.mem_cons.1 hz with rfl | hz
      · exact hx.1
      · have := hr.1 z hz
        omega
    · rename_i hx
      refine List.Pairwise.cons (fun z hz => ?_) (ins_sorted x r _ hr.2)
      rcases (mem_ins x r _ z).1 hz with hz | ⟨hd, rfl⟩
      · exact hr.1 z hz
      · have h1 : ¬ z < y := fun hlt => hx ⟨hlt, hd⟩
        have h2 : y ≠ z := by
          intro e
          simp [e] at hd
        omega

theorem ins_step_two {x : Int} {zs ys : List Int} {k : Nat} {b : Bool} (h : k < zs.length) (hx : x < zs[k]) (hb : (b || zs[k] == x) = false) :
    (ys ++ [x]) ++ [zs[k]] ++ ins x (zs.drop (k + 1)) true = ys ++ ins x (zs.drop k) b := by
  rw [List.drop_eq_getElem_cons h]
  simp [ins, hx, hb]

theorem ins_step_one {x : Int} {zs ys : List Int} {k : Nat} {b d : Bool} (h : k < zs.length) (hx : ¬ (x < zs[k] ∧ (b || zs[k] == x) = false)) (hd : d = (b || zs[k] == x)) :
    ys ++ [zs[k]] ++ ins x (zs.drop (k + 1)) d = ys ++ ins x (zs.drop k) b := by
  subst hd
  rw [List.drop_eq_getElem_cons h, ins, if_neg hx]
  simp

/-- Two strictly increasing lists with the same elements are one. -/
theorem sorted_ext : ∀ {a b : List Int}, a.Pairwise (· < ·) → b.Pairwise (· < ·) → (∀ z, z ∈ a ↔ z ∈ b) → a = b
  | [], [], _, _, _ => rfl
  | [], y :: r, _, _, h => by have := (h y).2 (by simp); simp at this
  | x :: q, [], _, _, h => by have := (h x).1 (by simp); simp at this
  | x :: q, y :: r, ha, hb, h => by
    have ha' := List.pairwise_cons.1 ha
    have hb' := List.pairwise_cons.1 hb
    have e : x = y := by
      have h1 := (h x).1 (by simp)
      have h2 := (h y).2 (by simp)
      rcases List.mem_cons.1 h1 with h1 | h1
      · exact h1
      · rcases List.mem_cons.1 h2 with h2 | h2
        · exact h2.symm
        · have := hb'.1 x h1
          have := ha'.1 y h2
          omega
    subst e
    congr 1
    refine sorted_ext ha'.2 hb'.2 fun z => ⟨fun hz => ?_, fun hz => ?_⟩
    · have := ha'.1 z hz
      rcases List.mem_cons.1 ((h z).1 (by simp [hz])) with h1 | h1
      · omega
      · exact h1
    · have := hb'.1 z hz
      rcases List.mem_cons.1 ((h z).2 (by simp [hz])) with h1 | h1
      · omega
      · exact h1

/-- The reference's set of the elements. -/
def of (l : List Int) : List Int := l.foldl (fun s x => ins x s false) []

theorem foldl_ins (l : List Int) : ∀ s : List Int, s.Pairwise (· < ·) → (l.foldl (fun s x => ins x s false) s).Pairwise (· < ·) ∧ ∀ z, z ∈ l.foldl (fun s x => ins x s false) s ↔ z ∈ s ∨ z ∈ l := by
  induction l with
  | nil => intro s h; simp [h]
  | cons x r ih =>
    intro s h
    obtain ⟨h1, h2⟩ := ih (ins x s false) (ins_sorted x s false h)
    refine ⟨h1, fun z => ?_⟩
    rw [List.foldl_cons, h2, mem_ins, List.mem_cons]
    constructor
    · rintro ((h | ⟨_, h⟩) | h)
      · exact .inl h
      · exact .inr (.inl h)
      · exact .inr (.inr h)
    · rintro (h | h | h)
      · exact .inl (.inl h)
      · exact .inl (.inr ⟨rfl, h⟩)
      · exact .inr h

theorem of_sorted (l : List Int) : (of l).Pairwise (· < ·) := (foldl_ins l [] .nil).1
theorem mem_of (l : List Int) (z : Int) : z ∈ of l ↔ z ∈ l := by simpa [of] using (foldl_ins l [] .nil).2 z

theorem foldl_ins_length (l : List Int) : ∀ s : List Int, (l.foldl (fun s x => ins x s false) s).length ≤ s.length + l.length := by
  induction l with
  | nil => intro s; simp
  | cons x r ih =>
    intro s
    have := ih (ins x s false)
    have := ins_length x s false
    simp only [List.foldl_cons, List.length_cons]
    omega

theorem of_length (l : List Int) : (of l).length ≤ l.length := by simpa [of] using foldl_ins_length l []

/-- The union, as the reference makes it: the second list put into the first one's set. -/
def into (s l : List Int) : List Int := l.foldl (fun s x => ins x s false) s

theorem into_nil (s : List Int) : into s [] = s := rfl
theorem into_drop {s l : List Int} {k : Nat} (h : k < l.length) : into (ins l[k] s false) (l.drop (k + 1)) = into s (l.drop k) := by
  rw [List.drop_eq_getElem_cons h]; rfl
theorem into_end {s l : List Int} {k : Nat} (h : ¬ k < l.length) : into s (l.drop k) = s := by
  rw [List.drop_eq_nil_of_le (by omega)]; rfl

theorem filter_drop {p : Int → Bool} {ys l : List Int} {k : Nat} (h : k < l.length) (hp : p l[k] = true) : ys ++ [l[k]] ++ (l.drop (k + 1)).filter p = ys ++ (l.drop k).filter p := by
  rw [List.drop_eq_getElem_cons h, List.filter_cons_of_pos hp]; simp
theorem filter_skip {p : Int → Bool} {ys l : List Int} {k : Nat} (h : k < l.length) (hp : p l[k] = false) : ys ++ (l.drop (k + 1)).filter p = ys ++ (l.drop k).filter p := by
  rw [List.drop_eq_getElem_cons h, List.filter_cons_of_neg (by simp [hp])]
theorem filter_end {p : Int → Bool} {ys l : List Int} {k : Nat} (h : ¬ k < l.length) : ys ++ (l.drop k).filter p = ys := by
  rw [List.drop_eq_nil_of_le (by omega)]; simp

/-- The program's walk over two sets. -/
def mrg (l r c : Bool) : List Int → List Int → List Int
  | [], [] => []
  | x :: q, [] => (if l then [x] else []) ++ mrg l r c q []
  | [], y :: s => (if r then [y] else []) ++ mrg l r c [] s
  | x :: q, y :: s =>
    if x < y then (if l then [x] else []) ++ mrg l r c q (y :: s)
    else if y < x then (if r then [y] else []) ++ mrg l r c (x :: q) s
    else (if c then [x] else []) ++ mrg l r c q s
termination_by a b => a.length + b.length

theorem mrg_left {l r c : Bool} {x : Int} {q b : List Int} (h : ∀ y ∈ b.head?, x < y) : mrg l r c (x :: q) b = (if l then [x] else []) ++ mrg l r c q b := by
  cases b with
  | nil => rw [mrg]
  | cons y s => rw [mrg, if_pos (h y rfl)]

theorem mrg_right {l r c : Bool} {y : Int} {s a : List Int} (h : ∀ x ∈ a.head?, y < x) : mrg l r c a (y :: s) = (if r then [y] else []) ++ mrg l r c a s := by
  cases a with
  | nil => rw [mrg]
  | cons x q => rw [mrg, if_neg (by have := h x rfl; omega), if_pos (h x rfl)]

theorem mrg_both {l r c : Bool} {x y : Int} {q s : List Int} (h1 : ¬ x < y) (h2 : ¬ y < x) : mrg l r c (x :: q) (y :: s) = (if c then [x] else []) ++ mrg l r c q s := by
  rw [mrg, if_neg h1, if_neg h2]

theorem mrg_nil {l r c : Bool} : mrg l r c [] [] = [] := by rw [mrg]

theorem step_left {l r c : Bool} {x : Int} {q b ys : List Int} (h : ∀ y ∈ b.head?, x < y) : (ys ++ if l then [x] else []) ++ mrg l r c q b = ys ++ mrg l r c (x :: q) b := by
  rw [mrg_left h, List.append_assoc]
theorem step_right {l r c : Bool} {y : Int} {s a ys : List Int} (h : ∀ x ∈ a.head?, y < x) : (ys ++ if r then [y] else []) ++ mrg l r c a s = ys ++ mrg l r c a (y :: s) := by
  rw [mrg_right h, List.append_assoc]
theorem step_both {l r c : Bool} {x y : Int} {q s ys : List Int} (h1 : ¬ x < y) (h2 : ¬ y < x) : (ys ++ if c then [x] else []) ++ mrg l r c q s = ys ++ mrg l r c (x :: q) (y :: s) := by
  rw [mrg_both h1 h2, List.append_assoc]

/-- What the walk keeps. -/
def kept (l r c : Bool) (a b : List Int) (z : Int) : Prop := (z ∈ a ∧ z ∉ b ∧ l = true) ∨ (z ∉ a ∧ z ∈ b ∧ r = true) ∨ (z ∈ a ∧ z ∈ b ∧ c = true)

theorem pick_mem (l : Bool) (x z : Int) : z ∈ (if l then [x] else []) ↔ z = x ∧ l = true := by cases l <;> simp

theorem mrg_spec (l r c : Bool) : ∀ (n : Nat) (a b : List Int), a.length + b.length ≤ n → a.Pairwise (· < ·) → b.Pairwise (· < ·) →
    (mrg l r c a b).Pairwise (· < ·) ∧ ∀ z, z ∈ mrg l r c a b ↔ kept l r c a b z
  | 0, a, b, hn, _, _ => by
    have ha : a = [] := List.length_eq_zero_iff.1 (by omega)
    have hb : b = [] := List.length_eq_zero_iff.1 (by omega)
    subst ha hb
    simp [mrg_nil, kept]
  | n + 1, [], [], _, _, _ => by simp [mrg_nil, kept]
  | n + 1, x :: q, b, hn, ha, hb => by
    have ha' := List.pairwise_cons.1 ha
    by_cases hx : ∀ y ∈ b.head?, x < y
    · rw [mrg_left hx]
      obtain ⟨h1, h2⟩ := mrg_spec l r c n q b (by simp at hn; omega) ha'.2 hb
      have hlo : ∀ y ∈ b, x < y := by
        cases b with
        | nil => simp
        | cons y s =>
          have hb' := List.pairwise_cons.1 hb
          have hxy : x < y := hx y rfl
          intro z hz
          rcases List.mem_cons.1 hz with rfl | hz
          · exact hxy
          · have := hb'.1 z hz; omega
      have hxb : x ∉ b := fun h => by have := hlo x h; omega
      have hxq : x ∉ q := fun h => by have := ha'.1 x h; omega
      refine ⟨List.pairwise_append.2 ⟨by cases l <;> simp, h1, fun u hu z hz => ?_⟩, fun z => ?_⟩
      · rw [pick_mem] at hu
        rw [hu.1]
        rcases (h2 z).1 hz with h | h | h
        · exact ha'.1 z h.1
        · exact hlo z h.2.1
        · exact ha'.1 z h.1
      · rw [List.mem_append, pick_mem, h2]
        unfold kept
        by_cases e : z = x
        · subst e; simp [hxb, hxq]
        · simp [e]
    · cases b with
      | nil => simp at hx
      | cons y s =>
        have hxy : ¬ x < y := fun h => hx fun u hu => by simp at hu; omega
        have hb' := List.pairwise_cons.1 hb
        by_cases hyx : y < x
        · rw [mrg_right (by simpa using hyx)]
          obtain ⟨h1, h2⟩ := mrg_spec l r c n (x :: q) s (by simp at hn ⊢; omega) ha hb'.2
          have hlo : ∀ u ∈ x :: q, y < u := by
            intro u hu
            rcases List.mem_cons.1 hu with rfl | hu
            · exact hyx
            · have := ha'.1 u hu; omega
          have hya : y ∉ x :: q := fun h => by have := hlo y h; omega
          have hys : y ∉ s := fun h => by have := hb'.1 y h; omega
          refine ⟨List.pairwise_append.2 ⟨by cases r <;> simp, h1, fun u hu z hz => ?_⟩, fun z => ?_⟩
          · rw [pick_mem] at hu
            rw [hu.1]
            rcases (h2 z).1 hz with h | h | h
            · exact hlo z h.1
            · exact hb'.1 z h.2.1
            · exact hlo z h.1
          · rw [List.mem_append, pick_mem, h2]
            unfold kept
            by_cases e : z = y
            · subst e
              have h1 : z ≠ x := by omega
              have h2 : z ∉ q := fun h => hya (List.mem_cons_of_mem _ h)
              simp [hys, h1, h2]
            · simp [e]
        · rw [mrg_both hxy hyx]
          have exy : x = y := by omega
          subst exy
          obtain ⟨h1, h2⟩ := mrg_spec l r c n q s (by simp at hn; omega) ha'.2 hb'.2
          have hxq : x ∉ q := fun h => by have := ha'.1 x h; omega
          have hxs : x ∉ s := fun h => by have := hb'.1 x h; omega
          refine ⟨List.pairwise_append.2 ⟨by cases c <;> simp, h1, fun u hu z hz => ?_⟩, fun z => ?_⟩
          · rw [pick_mem] at hu
            rw [hu.1]
            rcases (h2 z).1 hz with h | h | h
            · exact ha'.1 z h.1
            · exact hb'.1 z h.2.1
            · exact ha'.1 z h.1
          · rw [List.mem_append, pick_mem, h2]
            unfold kept
            by_cases e : z = x
            · subst e; simp [hxq, hxs]
            · simp [e]
  | n + 1, [], y :: s, hn, ha, hb => by
    have hb' := List.pairwise_cons.1 hb
    rw [mrg_right (by simp)]
    obtain ⟨h1, h2⟩ := mrg_spec l r c n [] s (by simp at hn ⊢; omega) ha hb'.2
    have hys : y ∉ s := fun h => by have := hb'.1 y h; omega
    refine ⟨List.pairwise_append.2 ⟨by cases r <;> simp, h1, fun u hu z hz => ?_⟩, fun z => ?_⟩
    · rw [pick_mem] at hu
      rw [hu.1]
      rcases (h2 z).1 hz with h | h | h
      · exact absurd h.1 (by simp)
      · exact hb'.1 z h.2.1
      · exact absurd h.1 (by simp)
    · rw [List.mem_append, pick_mem, h2]
      unfold kept
      by_cases e : z = y
      · subst e; simp [hys]
      · simp [e]

/-- The three operations of the program, over the sets of two lists. -/
def union (a b : List Int) : List Int := mrg true true true (of a) (of b)
def meet (a b : List Int) : List Int := mrg false false true (of a) (of b)
def minus (a b : List Int) : List Int := mrg true false false (of a) (of b)

theorem union_sorted (a b : List Int) : (union a b).Pairwise (· < ·) := (mrg_spec true true true _ _ _ (Nat.le_refl _) (of_sorted a) (of_sorted b)).1
theorem meet_sorted (a b : List Int) : (meet a b).Pairwise (· < ·) := (mrg_spec false false true _ _ _ (Nat.le_refl _) (of_sorted a) (of_sorted b)).1
theorem minus_sorted (a b : List Int) : (minus a b).Pairwise (· < ·) := (mrg_spec true false false _ _ _ (Nat.le_refl _) (of_sorted a) (of_sorted b)).1
theorem mem_union (a b : List Int) (z : Int) : z ∈ union a b ↔ z ∈ a ∨ z ∈ b := by
  rw [union, (mrg_spec true true true _ _ _ (Nat.le_refl _) (of_sorted a) (of_sorted b)).2, kept, mem_of, mem_of]
  by_cases h1 : z ∈ a <;> by_cases h2 : z ∈ b <;> simp [h1, h2]
theorem mem_meet (a b : List Int) (z : Int) : z ∈ meet a b ↔ z ∈ a ∧ z ∈ b := by
  rw [meet, (mrg_spec false false true _ _ _ (Nat.le_refl _) (of_sorted a) (of_sorted b)).2, kept, mem_of, mem_of]
  by_cases h1 : z ∈ a <;> by_cases h2 : z ∈ b <;> simp [h1, h2]
theorem mem_minus (a b : List Int) (z : Int) : z ∈ minus a b ↔ z ∈ a ∧ z ∉ b := by
  rw [minus, (mrg_spec true false false _ _ _ (Nat.le_refl _) (of_sorted a) (of_sorted b)).2, kept, mem_of, mem_of]
  by_cases h1 : z ∈ a <;> by_cases h2 : z ∈ b <;> simp [h1, h2]

theorem mrg_length (l r c : Bool) : ∀ (n : Nat) (a b : List Int), a.length + b.length ≤ n → (mrg l r c a b).length ≤ a.length + b.length
  | 0, a, b, hn => by
    have ha : a = [] := List.length_eq_zero_iff.1 (by omega)
    have hb : b = [] := List.length_eq_zero_iff.1 (by omega)
    subst ha hb
    simp [mrg_nil]
  | n + 1, [], [], _ => by simp [mrg_nil]
  | n + 1, x :: q, [], hn => by
    rw [mrg]
    have := mrg_length l r c n q [] (by simp at hn ⊢; omega)
    cases l <;> simp at this ⊢ <;> omega
  | n + 1, [], y :: s, hn => by
    rw [mrg]
    have := mrg_length l r c n [] s (by simp at hn ⊢; omega)
    cases r <;> simp at this ⊢ <;> omega
  | n + 1, x :: q, y :: s, hn => by
    rw [mrg]
    have h1 := mrg_length l r c n q (y :: s) (by simp at hn ⊢; omega)
    have h2 := mrg_length l r c n (x :: q) s (by simp at hn ⊢; omega)
    have h3 := mrg_length l r c n q s (by simp at hn ⊢; omega)
    simp only [List.length_cons] at h1 h2 h3 ⊢
    split
    · cases l <;> simp <;> omega
    · split
      · cases r <;> simp <;> omega
      · cases c <;> simp <;> omega

end Go.Proofs.Ytfiilodghimajaa.Plain
