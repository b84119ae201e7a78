/-
  Strings as lists of bytes. Own work; no program in sight.
-/
import Derived.Test.YtankjfiaajpfoaaDoorAm24
namespace Go.Proofs.YtankjfiaajpfoaaDoor
open Go.RowKit

/-- The string of these bytes. -/
def bs (l : List UInt8) : ByteArray := ⟨l.toArray⟩
@[simp] theorem bs_size (l : List UInt8) : (bs l).size = l.length := by simp [bs, ByteArray.size]
theorem bs_toList (s : ByteArray) : bs s.data.toList = s := by simp [bs]
theorem bs_append (l m : List UInt8) : bs l ++ bs m = bs (l ++ m) := ByteArray.ext (by simp [bs])
theorem btA_bs (l : List UInt8) (i : Nat) : btA (bs l) i = (l.getD i 0).toNat := rfl
theorem bs_inj {l m : List UInt8} (h : bs l = bs m) : l = m := by
  have := congrArg (fun s : ByteArray => s.data.toList) h
  simpa [bs] using this
theorem bs_extract (l : List UInt8) (a b : Nat) : (bs l).extract a b = bs ((l.take b).drop a) := ByteArray.ext (Array.ext' (by
  simp only [bs, ByteArray.data_extract, Array.toList_extract, List.extract_eq_take_drop, List.drop_take]))
theorem bs_extract_tail (x : UInt8) (l : List UInt8) : (bs (x :: l)).extract 1 (l.length + 1) = bs l := by
  rw [bs_extract]
  simp
theorem str_ext {s t : ByteArray} (h : s.size = t.size) (hb : ∀ i, i < s.size → btA s i = btA t i) : s = t := by
  refine ByteArray.ext (Array.ext h fun i h1 h2 => ?_)
  have := hb i h1
  simp only [btA, List.getD_eq_getElem?_getD, Array.getElem?_toList, Array.getElem?_eq_getElem h1, Array.getElem?_eq_getElem h2, Option.getD_some] at this
  exact UInt8.toNat_inj.1 this

/-! ### Rows that are written out -/
@[simp] theorem dec_cons {α : Type} [Enc α] (sz : Nat) (f : Bool) (r : List AV) (rows : List (List AV)) : (Enc.dec (.slice sz f (r :: rows)) : List α) = Enc.unc r :: Enc.dec (.slice sz f rows) := rfl
@[simp] theorem unc_int (k : IntKind) (n : Int) : (Enc.unc [.int k n] : Int) = n := rfl
@[simp] theorem unc_bool (n : Bool) : (Enc.unc [.bool n] : Bool) = n := rfl
@[simp] theorem unc_str (n : ByteArray) : (Enc.unc [.str n] : ByteArray) = n := rfl
@[simp] theorem unc_list {α : Type} [Enc α] (sz : Nat) (f : Bool) (rows : List (List AV)) : (Enc.unc [.slice sz f rows] : List α) = Enc.dec (.slice sz f rows) := rfl
end Go.Proofs.YtankjfiaajpfoaaDoor
