/-
  Words for strings and bytes: the byte at a place, a marked row of bytes that a conversion has made. Own work.
-/
import Derived.Test.YthcfnaglgoaikaaGreatKit
import Derived.Laws.IdiomStrings
namespace Go.Proofs.YthcfnaglgoaikaaGreat
open Go.RowKit

/-- The byte at place j, or 0. -/
def bt (s : ByteArray) (j : Nat) : Nat := (s.data.toList.getD j 0).toNat

theorem bt_eq {s : ByteArray} {j : Nat} (h : j < s.size) : (s[j]'h).toNat = bt s j := by
  have h' : j < s.data.toList.length := by simpa using h
  unfold bt
  rw [List.getD_eq_getElem?_getD, List.getElem?_eq_getElem h']
  rfl

theorem bt_lt (s : ByteArray) (j : Nat) : bt s j < 256 := by unfold bt; exact UInt8.toNat_lt _

theorem ret_str {a b : ByteArray} (h : a = b) : Ending.returned (.string a) = .returned (.string b) := by rw [h]

/-- Block g is just the cells C of type t, with the mark of a row that a conversion from a string has made: none of them is frozen. -/
def Marked (w : World) (g : Nat) (t : TypeId) (C : Array Value) : Prop := w.heap[g]? = some (.cells C t (C.size, C.size + 1))

theorem Marked.cell {w : World} {g : Nat} {t : TypeId} {C : Array Value} (h : Marked w g t C) (i : Nat) : w.cell? ⟨g, i, none⟩ = C[i]? := by
  unfold Marked at h
  simp [World.cell?, h]
theorem Marked.frozen {w : World} {g : Nat} {t : TypeId} {C : Array Value} (h : Marked w g t C) {i : Nat} (hi : i < C.size) : w.frozen? ⟨g, i, none⟩ = false := by
  unfold Marked at h
  simp [World.frozen?, h]
  omega
theorem Marked.set_ {w : World} {g : Nat} {t : TypeId} {C : Array Value} (h : Marked w g t C) (i : Nat) (u : Value) : Marked (w.setCell ⟨g, i, none⟩ u) g t (C.setIfInBounds i u) := by
  unfold Marked at h ⊢
  simp [World.setCell, Array.getElem?_modify, h]
theorem Marked.drewN {w : World} {g : Nat} {t : TypeId} {C : Array Value} (h : Marked w g t C) (n : Nat) : Marked (w.drewN n) g t C := h
theorem Marked.below {w w' : World} {g B : Nat} {t : TypeId} {C : Array Value} (h : Marked w g t C) (hb : Below B w w') (hg : g < B) : Marked w' g t C := (hb.block g hg).trans h

/-- '[]byte(s)'. -/
theorem conv_bytes {P : Program} {src dst e : TypeId} (hs : P.underlying src = some .string) (hd : P.underlying dst = some (.slice e)) (he : P.underlying e = some (.int .u8)) (w : World) (s : ByteArray) :
    ∃ C w1, (convert src dst (.string s)).run P w = .ok (.slice (some ⟨w.heap.size, 0, none⟩) s.size C.size) w1 ∧ Marked w1 w.heap.size e C ∧ s.size ≤ C.size ∧ (∀ j, j < s.size → C[j]? = some (.int .u8 (bt s j : Int))) ∧ Below w.heap.size w w1 ∧ w1.heap.size = w.heap.size + 1 := by
  have hr := run_bytes_of_string w src dst e s hs hd he
  have hge := grownCap_ge w s.size 0 e
  generalize grownCap w s.size 0 e = cap at *
  have hd : s.data.size = s.size := rfl
  have hsz : (bytesRow s cap).size = cap := by
    unfold bytesRow
    rw [Array.size_append, Array.size_map, Array.size_replicate, hd]
    omega
  have hh : (w.drew.alloc (.cells (bytesRow s cap) e ((bytesRow s cap).size, (bytesRow s cap).size + 1))).heap[w.heap.size]? = some (.cells (bytesRow s cap) e ((bytesRow s cap).size, (bytesRow s cap).size + 1)) := by
    show (w.heap.push _)[w.heap.size]? = _
    simp
  refine ⟨bytesRow s cap, _, by rw [hr, hsz], hh, by omega, fun j hj => ?_, ((Below.refl _ w).drew).alloc (Nat.le_refl _) _, by simp⟩
  rw [bytesRow_at s cap j (by omega)]
  have : (s.data[j]'(by omega)).toNat = bt s j := by
    have h' : j < s.data.toList.length := by simp; omega
    unfold bt
    rw [List.getD_eq_getElem?_getD, List.getElem?_eq_getElem h']
    simp
  rw [this]

/-- 'string(b)'. -/
theorem conv_string {P : Program} {src dst e : TypeId} (hs : P.underlying src = some (.slice e)) (he : P.underlying e = some (.int .u8)) (hd : P.underlying dst = some .string) (w : World) (b off n cap : Nat) (l : List UInt8) (hl : l.length = n)
    (hc : ∀ j (hj : j < l.length), w.cell? ⟨b, off + j, none⟩ = some (.int .u8 (l[j].toNat : Int))) :
    (convert src dst (.slice (some ⟨b, off, none⟩) n cap)).run P w = .ok (.string ⟨l.toArray⟩) w := by
  subst hl
  refine run_convert_bytes_back w src dst e ⟨b, off, none⟩ cap l hs he hd fun j hj => ?_
  have e1 : (⟨b, off, none⟩ : Addr).add j = ⟨b, off + j, none⟩ := by
    unfold Addr.add
    split
    · rename_i h; subst h; rfl
    · rfl
  rw [e1]
  exact hc j hj

/-- The i-th string, or the empty one. -/
def sl (ss : List ByteArray) (i : Nat) : ByteArray := ss.getD i ByteArray.empty
theorem sl_lt {ss : List ByteArray} {i : Nat} (h : i < ss.length) : sl ss i = ss[i] := by simp [sl, h]

/-- The slice value v reads as the strings ss. -/
def StrsAt (w : World) (v : Value) (ss : List ByteArray) : Prop :=
  ∃ (A : Option Addr) (n c : Nat), v = .slice A n c ∧ ss.length = n ∧ n ≤ c ∧ c ≤ maxLen ∧ (0 < n → ∃ b off, A = some ⟨b, off, none⟩ ∧ ∀ j, j < n → w.cell? ⟨b, off + j, none⟩ = some (.string (sl ss j)))

theorem StrsAt.below {w w' : World} {v : Value} {ss : List ByteArray} {B : Nat} (h : StrsAt w v ss) (hb : Below B w w') (hB : w.heap.size ≤ B) : StrsAt w' v ss := by
  obtain ⟨A, n, c, rfl, hl, hc, hm, hr⟩ := h
  refine ⟨A, n, c, rfl, hl, hc, hm, fun h0 => ?_⟩
  obtain ⟨b, off, rfl, hx⟩ := hr h0
  exact ⟨b, off, rfl, fun j hj => Go.Proofs.YthcfnaglgoaikaaGreat.cell_later hb hB (hx j hj)⟩

theorem strsAt_new {W : World} {e : TypeId} {cs : Array Value} {m n c : Nat} (ss : List ByteArray) (hcs : cs = (ss.map Value.string).toArray) (hm : m = W.heap.size) (hn : n = ss.length) (hc : c = n) (hs : ss.length < 1000000) :
    StrsAt (W.alloc (.cells cs e)) (.slice (some ⟨m, 0, none⟩) n c) ss := by
  subst hcs hm hn hc
  refine ⟨_, _, _, rfl, rfl, Nat.le_refl _, by unfold maxLen; omega, fun _ => ⟨_, 0, rfl, fun j hj => ?_⟩⟩
  rw [cell_of_row _ W.heap.size (0 + j) _ e (0, 0) (heap_alloc_new W _)]
  simp [sl, hj]

end Go.Proofs.YthcfnaglgoaikaaGreat
