/-
  slices.Values and slices.Sorted(slices.Values(s)) as contracts.
-/
import Derived.Test.YtkonafdbfciikaaV4
import Derived.Test.YtkonafdbfciikaaShelfS
import Derived.Test.YtkonafdbfciikaaT18
namespace Go.Proofs.Ytkonafdbfciikaa
open Go.RowKit
set_option linter.unusedSimpArgs false
set_option linter.unusedVariables false
set_option maxRecDepth 100000

theorem sortsW (m : Nat) : SortsI Go.Fence.wide m := ⟨fun blk off cap ss W hH hblk hsz => Go.callsIn_wide.2 (Go.Proofs.AnyM.slices_Sort_int Try.sortI blk off cap ss W hH hblk hsz), fun p cap W => Go.callsIn_wide.2 (Go.Proofs.AnyM.slices_Sort_int_none Try.sortI p cap W)⟩
def sortI (l : List Int) : List Int := l.mergeSort fun x y => decide (x ≤ y)
def sValues : List AV → Option (Prop × AV) := spec1 (fun (l : List Int) => SmallR l) (fun l => .fn 81 [.iptr [.slice 1 false (encRows l)]])
theorem valuesP : PureOK Try.prog G0 68 sValues := by
  refine pure1 (C := CE) sigCE mixCE Try.func68 rfl rfl rfl (by kernel_rfl) (by decide) (fun l hl => ?_)
  simp [aev, cav, look, acallPure, abin, abinN, abinP, abinI, abinS, aun, aconv, afield, afieldAddr, aindexAddr, aindex, aslice, alow, ahigh, abuild, abuildGo, cellsOf, splice, fieldTy, alen, apick, amax, amin, aload, headV, aparts, abuildSlice, elParts, abytesStr, astore, amake, aappend, aclear, anew, arith, aresults, aresList, ares, spec0, spec1, spec2, spec3, spec4, eqCells, eqCell]
def sSortedV : List AV → Option (Prop × AV)
  | [.fn f [.iptr [a]]] => if f = 81 then some (a = Enc.enc (Enc.dec a : List Int) ∧ SmallR (Enc.dec a : List Int), Enc.enc (sortI (Enc.dec a))) else none
  | _ => none
@[simp] theorem sSortedV_eq (a : AV) : sSortedV [.fn 81 [.iptr [a]]] = some (a = Enc.enc (Enc.dec a : List Int) ∧ SmallR (Enc.dec a : List Int), Enc.enc (sortI (Enc.dec a))) := rfl
theorem sortedVP : PureOK Try.prog G0 67 sSortedV := fun w X args avs ob r hX hG hsz harg hp hob => by
  unfold sSortedV at hp
  split at hp
  case h_2 => cases hp
  rename_i f a
  split at hp
  case isFalse => cases hp
  rename_i hf
  subst hf
  injection hp with hp; injection hp with e1 e2; subst e1 e2
  obtain ⟨ha, hl⟩ := hob
  generalize hzs : (Enc.dec a : List Int) = zs at *
  have hl' : zs.length ≤ 1000000 := hl
  obtain ⟨v, hv, hr⟩ := harg 0 _ rfl
  cases hr with
  | fn f cs cells val h1 h2 h3 =>
    have q := h3 0 (.iptr [a]) rfl
    have c0 := h2 0 (by simp)
    have hcs : cs = #[val 0] := by
      apply Array.ext_getElem?
      intro i
      match i with
      | 0 => rw [c0]; rfl
      | i + 1 => rw [Array.getElem?_eq_none (by rw [h1]; simp), Array.getElem?_eq_none (by simp)]
    subst hcs
    generalize val 0 = p at *
    cases q with
    | iptr b off cells val' hb hXb hm hv' =>
      obtain ⟨m1, m2⟩ := hm 0 (by simp)
      have q2 := hv' 0 a rfl
      generalize val' 0 = sv at *
      have hargs : args = #[.func (.func 81) #[] #[.pointer (some ⟨b, off, none⟩)]] := by
        apply Array.ext_getElem?
        intro i
        match i with
        | 0 => rw [hv]; rfl
        | i + 1 => rw [Array.getElem?_eq_none (by rw [hsz]; simp), Array.getElem?_eq_none (by simp)]
      subst hargs
      rw [ha] at q2
      obtain ⟨sa, cap, vals, rfl, k1, k2, k3, k4, k5, k6⟩ := repD_slice q2
      have hlen : (List.map Enc.cells zs).length = zs.length := by simp
      rw [hlen] at m1 k1 k5
      have hI : IntsAt w.heap.size w (.slice sa zs.length cap) zs := by
        by_cases hz : zs.length = 0
        · exact .inl ⟨sa, cap, by rw [hz], List.eq_nil_of_length_eq_zero hz⟩
        · obtain ⟨b', off', rfl, hb', _, hcell⟩ := k5 hz
          refine .inr ⟨b', off', cap, rfl, hb', fun j hj => ?_⟩
          obtain ⟨c1, _⟩ := hcell j 0 (by simpa using hj) Nat.zero_lt_one
          have hr := k6 j 0 (Enc.cells zs[j]) (.int .i64 zs[j]) (by rw [List.getElem?_map, List.getElem?_eq_getElem hj]; rfl) rfl
          rw [show off' + j * Enc.sz Int + 0 = off' + j from by rw [show Enc.sz Int = 1 from rfl]; omega] at c1
          rw [c1]
          rw [List.getElem?_eq_getElem hj]
          generalize vals j 0 = q at *
          cases hr
          rfl
      refine (Go.callsIn_wide.1 (sortedD Go.Fence.wide 5 trivial trivial trivial trivial trivial rfl (by omega) (sortsW _) b off _ zs hl' w hb m1 hI)).mono ?_
      rintro e w' ⟨v, rfl, hrow, hbel, hdr⟩
      refine ⟨v, rfl, ⟨hbel.os, hbel.tape, hbel.output, hbel.size, fun k hk _ => hbel.block k hk, hdr⟩, ?_⟩
      show RepD w' X v (.slice 1 false (encRows (sortI zs)))
      have hsl : (sortI zs).length = zs.length := by unfold sortI; rw [List.length_mergeSort]
      have hrl : (encRows (sortI zs)).length = zs.length := by rw [encRows_length, hsl]
      rcases hrow.2 with ⟨rfl, hz⟩ | ⟨g, cap', cur, rfl, hbase, hg, r1, r2, r3, r4⟩
      · refine .slice 1 false _ none 0 0 (fun _ _ => undef) (by rw [hrl, hz]) (by omega) (Nat.zero_le _) (fun h => by cases h) (fun r hr => ?_) (fun h => absurd hz (by rw [hrl] at h; exact h)) (fun i j r v hi hj => ?_)
        · obtain ⟨x, _, rfl⟩ := List.mem_map.1 hr; rfl
        · have := (List.getElem?_eq_some_iff.1 hi).1; omega
      · have hcur : ∀ i (hi : i < zs.length), cur[i]? = some (.int .i64 (ix (sortI zs) i)) := by
          intro i hi
          have h := congrArg (fun l => l[i]?) r4
          rw [List.getElem?_take, if_pos (by omega), Array.getElem?_toList, List.getElem?_map] at h
          rw [h]
          have hi' : i < (sortI zs).length := by omega
          show Option.map _ (sortI zs)[i]? = _
          rw [List.getElem?_eq_getElem hi', ix_lt hi']
          rfl
        refine .slice 1 false _ (some ⟨g, 0, none⟩) zs.length cap' (fun i _ => .int .i64 (ix (sortI zs) i)) hrl.symm (by omega) r2 (fun h => by cases h) (fun r hr => ?_) (fun _ => ⟨g, 0, rfl, (Array.getElem?_eq_some_iff.1 hg).1, fun hx => by have := hX g hx; omega, fun i j hi hj => ?_⟩) (fun i j r v hi hj => ?_)
        · obtain ⟨x, _, rfl⟩ := List.mem_map.1 hr; rfl
        · have hj0 : j = 0 := by omega
          subst hj0
          rw [hrl] at hi
          refine ⟨?_, rfl⟩
          rw [show 0 + i * 1 + 0 = i by omega, cell_of_row w' g i cur 3 (0, 0) hg]
          exact hcur i hi
        · unfold encRows at hi
          rw [List.getElem?_map, Option.map_eq_some_iff] at hi
          obtain ⟨x, hx, rfl⟩ := hi
          obtain ⟨hi', rfl⟩ := List.getElem?_eq_some_iff.1 hx
          match j with
          | 0 =>
            have e : v = .int .i64 (sortI zs)[i] := by
              have h : some (AV.int .i64 (sortI zs)[i]) = some v := hj
              injection h with h
              exact h.symm
            rw [e, ix_lt hi']
            exact .int .i64 _
          | j + 1 =>
            have h : (none : Option AV) = some v := hj
            cases h
end Go.Proofs.Ytkonafdbfciikaa
