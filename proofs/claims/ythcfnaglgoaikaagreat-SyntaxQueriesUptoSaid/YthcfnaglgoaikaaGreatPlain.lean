/-
  What package lex computes, on byte arrays. No program in sight.
-/
import Derived.Test.YthcfnaglgoaikaaGreatKitBytes
namespace Go.Proofs.YthcfnaglgoaikaaGreat.Plain
open Go.Proofs.YthcfnaglgoaikaaGreat

def upB (b : UInt8) : UInt8 := if 97 ≤ b.toNat ∧ b.toNat ≤ 122 then UInt8.ofNat (b.toNat - 32) else b
def upN (c : Nat) : Nat := if 97 ≤ c ∧ c ≤ 122 then c - 32 else c
theorem upB_toNat (b : UInt8) : (upB b).toNat = upN b.toNat := by
  unfold upB upN
  split
  · have := b.toNat_lt
    simp
    omega
  · rfl
def upper (s : ByteArray) : ByteArray := ⟨(s.data.toList.map upB).toArray⟩
theorem upper_size (s : ByteArray) : (upper s).size = s.size := by
  show ((s.data.toList.map upB).toArray).size = s.data.size
  simp

/-- The first k bytes in upper case. -/
def upTo (s : ByteArray) (k : Nat) : ByteArray := ⟨((s.data.toList.take k).map upB).toArray⟩
theorem upTo_size (s : ByteArray) (k : Nat) : (upTo s k).size ≤ s.size := by
  show ((s.data.toList.take k).map upB).toArray.size ≤ s.data.size
  simp
  omega
theorem upTo_succ {s : ByteArray} {k : Nat} (h : k < s.size) : upTo s k ++ ⟨#[upB (s[k]'h)]⟩ = upTo s (k + 1) := by
  have h' : k < s.data.toList.length := by simpa using h
  apply ByteArray.ext
  rw [ByteArray.data_append]
  unfold upTo
  rw [List.take_succ_eq_append_getElem h']
  simp
  rfl
theorem upTo_all {s : ByteArray} {k : Nat} (h : s.size ≤ k) : upTo s k = upper s := by
  unfold upTo upper
  rw [List.take_of_length_le (by simpa using h)]

/-- The reserved words. -/
def words : List ByteArray := [⟨#[77, 65, 84, 67, 72]⟩, ⟨#[79, 80, 84, 73, 79, 78, 65, 76]⟩, ⟨#[87, 72, 69, 82, 69]⟩, ⟨#[85, 78, 87, 73, 78, 68]⟩, ⟨#[65, 83]⟩, ⟨#[87, 73, 84, 72]⟩, ⟨#[68, 73, 83, 84, 73, 78, 67, 84]⟩, ⟨#[79, 82, 68, 69, 82]⟩, ⟨#[66, 89]⟩, ⟨#[65, 83, 67]⟩, ⟨#[68, 69, 83, 67]⟩, ⟨#[83, 75, 73, 80]⟩, ⟨#[76, 73, 77, 73, 84]⟩, ⟨#[82, 69, 84, 85, 82, 78]⟩, ⟨#[67, 82, 69, 65, 84, 69]⟩, ⟨#[77, 69, 82, 71, 69]⟩, ⟨#[83, 69, 84]⟩, ⟨#[82, 69, 77, 79, 86, 69]⟩, ⟨#[68, 69, 76, 69, 84, 69]⟩, ⟨#[68, 69, 84, 65, 67, 72]⟩, ⟨#[65, 78, 68]⟩, ⟨#[79, 82]⟩, ⟨#[78, 79, 84]⟩, ⟨#[73, 78]⟩, ⟨#[73, 83]⟩, ⟨#[78, 85, 76, 76]⟩, ⟨#[84, 82, 85, 69]⟩, ⟨#[70, 65, 76, 83, 69]⟩, ⟨#[87, 65, 76, 75]⟩, ⟨#[84, 82, 65, 73, 76]⟩, ⟨#[83, 73, 77, 80, 76, 69]⟩, ⟨#[83, 72, 79, 82, 84, 69, 83, 84]⟩, ⟨#[65, 78, 89]⟩]
/-- Is it a reserved word, in any case? -/
def reserved (s : ByteArray) : Bool := decide ((upper s).toList ∈ words.map fun w => w.toList)

end Go.Proofs.YthcfnaglgoaikaaGreat.Plain
