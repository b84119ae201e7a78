/-
  Texts joined: C3E C4 C5 C6 R5 R6 C7 C8 C9 SU B23.
-/
import Derived.Test.YtgjljfbohpnfcaaGreatX6
import Derived.Test.YtgjljfbohpnfcaaGreatX4
import Derived.Test.YtgjljfbohpnfcaaGreatX3
import Derived.JoinedCond
import Derived.SizedLaws
import Derived.Test.YtgjljfbohpnfcaaGreatRows

namespace Go.Proofs.YtgjljfbohpnfcaaGreat
open Go.RowKit
set_option linter.unusedSimpArgs false
set_option linter.unusedVariables false
set_option maxRecDepth 100000
section
variable {m : Int}
set_option maxHeartbeats 16000000 in
theorem edgeR : GenOK Tryz.prog (G m) 67 gEdgeR := by
  refine gen_frame2 KSt (gen_of_avcH (C := CNoR m) (sigCNoR m) (mixCNoR m) [1, 15] Tryz.func67 rfl rfl rfl (by kernel_rfl) (fun avs H ob r H' h hob => ?_))
  obtain ⟨rest, s, p, st, rfl, rfl, hf, hp, rfl, rfl, hd⟩ := gM2c_inv KSt h hob
  unfold fEdgeR at hf
  split at hf
  case h_2 => cases hf
  rename_i a
  simp only [Option.some.injEq, Prod.mk.injEq] at hf
  obtain ⟨rfl, rfl⟩ := hf
  obtain ⟨hs, ha, hg⟩ := hp
  generalize (Enc.dec a : EdgePat) = n at *
  subst ha
  refine ⟨(by show 2 ≤ _; decide), ?_⟩
  show avcH _ _ _ _ _ ⟨argsρ 0 [.ptr 0 1 4 0 0, Enc.enc n], [SS s.old 1 s.vars.length s.kind s.e, VS s.vars]⟩ (wEnd _ _ _ fun ex st' => _ ∧ ∃ ob', _ ∧ _ ∧ st'.H = [KSt.A (s.edge n) 1, KSt.V (s.edge n)])
  clear h hd
  have hbl := len24 hs.2
  obtain ⟨b, hb⟩ : ∃ b, s.edgeK n = b := ⟨_, rfl⟩
  have hbo : OKR b := by rw [← hb]; exact hs.edgeK n
  have hr : s.edge n = b.props n.props := by unfold Rs.edge; rw [hb]
  rw [hr, KSt_A, KSt_V]
  have hpl : n.props.length ≤ 9223372036854775807 := hg.1
  clear hr
  unfold Rs.edgeK at hb
  dsimp only at hb
  simp [argsρ, SS, VS]
  refine AW_regionF (sigCNoR m) (mixCNoR m) [.pure, .pure, .pure, .read, .pure, .read, .read, .pure] [[],[0],[0,1],[1,0,2],[],[4],[4,5,2,0,1,3],[3,1,0,2,5,4,6]] (by kernel_rfl) (by kernel_rfl) (by kernel_rfl) (by kernel_rfl) ?_
  rcases em2 (n.mode = 0) with hm | hm
  · have hmm := of_eq_true hm
    rcases em2 (n.var = ⟨#[]⟩) with h0 | h0
    · rw [if_neg (by simp [h0]), if_neg (by simp [h0])] at hb
      have hb' := hb.symm
      subst hb'
      simp [SS, VS, GBk, sKind, hbl, h0, hm]
      refine loop_ruleH (C := CNoR m) (sigCNoR m) (mixCNoR m) [1, 15] (fun i : Nat => ⟨[(0, .ptr 0 1 4 0 0), (3, .ptr 2 1 7 0 0), (6, .int .i64 i)], [SS (b.props (n.props.take i)).old 1 (b.props (n.props.take i)).vars.length (b.props (n.props.take i)).kind (b.props (n.props.take i)).e, VS (b.props (n.props.take i)).vars, GBk n]⟩) (fun i => i ≤ n.props.length) (fun i => n.props.length - i) (by kernel_rfl) ⟨0, Nat.zero_le _, weak_eq (by simp) (by simp [SS, VS, GBk, Rs.props])⟩ (fun i hi => ?_)
      have hbi := hbo.props (n.props.take i)
      by_cases hlt : i < n.props.length
      · have i1 : I64 ((i : Int) + 1) := by unfold I64; omega
        have hgi := hg.2 _ (ix_mem hlt)
        have ht := Rs.props_take (b := b) hlt
        generalize b.props (n.props.take i) = B at *
        simp [SS, VS, GBk, hlt, rowAt_enc hlt]
        refine AW_regionF (sigCNoR m) (mixCNoR m) [.pure, .pure, .read, .pure, .pure, .pure, .read, .pure, .pure, .pure, .read, .eff] [[],[],[1],[],[3,1,2],[2,1,3,4],[4,3,1,2,5],[],[7],[7,8],[8,7,9],[9,7,8,10,5,2,1,3,4,6,0]] (by kernel_rfl) (by kernel_rfl) (by kernel_rfl) (by kernel_rfl) ?_
        simp [SS, VS, GBk, hlt, rowAt_enc hlt, gCheckR_o, hbi.1, hgi, i1]
        exact ⟨i + 1, by omega, by omega, weak_eq (by simp) (by simp [SS, VS, GBk, ht, KSt_A, KSt_V])⟩
      · obtain rfl : i = n.props.length := by omega
        rw [List.take_length]
        simp [SS, VS, GBk, hlt]
        exact ⟨⟨[], _⟩, weak_keep 2 (by simp) (Nat.le_refl _) (by simp) (by simp [AV.clean, AV.clean1]) rfl, .inl rfl, ⟨True, trivial⟩, rfl⟩
    by_cases h1 : kindF s.vars n.var = 0
    · rw [if_pos ⟨of_eq_false h0, h1⟩, if_pos hmm] at hb
      simp [SS, VS, GBk, sKind, hbl, h0, h1, hm, gFailR_l, gIntroR_l, hs, hb, KSt_A, KSt_V]
      refine loop_ruleH (C := CNoR m) (sigCNoR m) (mixCNoR m) [1, 15] (fun i : Nat => ⟨[(0, .ptr 0 1 4 0 0), (3, .ptr 2 1 7 0 0), (6, .int .i64 i)], [SS (b.props (n.props.take i)).old 1 (b.props (n.props.take i)).vars.length (b.props (n.props.take i)).kind (b.props (n.props.take i)).e, VS (b.props (n.props.take i)).vars, GBk n]⟩) (fun i => i ≤ n.props.length) (fun i => n.props.length - i) (by kernel_rfl) ⟨0, Nat.zero_le _, weak_eq (by simp) (by simp [SS, VS, GBk, Rs.props])⟩ (fun i hi => ?_)
      have hbi := hbo.props (n.props.take i)
      by_cases hlt : i < n.props.length
      · have i1 : I64 ((i : Int) + 1) := by unfold I64; omega
        have hgi := hg.2 _ (ix_mem hlt)
        have ht := Rs.props_take (b := b) hlt
        generalize b.props (n.props.take i) = B at *
        simp [SS, VS, GBk, hlt, rowAt_enc hlt]
        refine AW_regionF (sigCNoR m) (mixCNoR m) [.pure, .pure, .read, .pure, .pure, .pure, .read, .pure, .pure, .pure, .read, .eff] [[],[],[1],[],[3,1,2],[2,1,3,4],[4,3,1,2,5],[],[7],[7,8],[8,7,9],[9,7,8,10,5,2,1,3,4,6,0]] (by kernel_rfl) (by kernel_rfl) (by kernel_rfl) (by kernel_rfl) ?_
        simp [SS, VS, GBk, hlt, rowAt_enc hlt, gCheckR_o, hbi.1, hgi, i1]
        exact ⟨i + 1, by omega, by omega, weak_eq (by simp) (by simp [SS, VS, GBk, ht, KSt_A, KSt_V])⟩
      · obtain rfl : i = n.props.length := by omega
        rw [List.take_length]
        simp [SS, VS, GBk, hlt]
        exact ⟨⟨[], _⟩, weak_keep 2 (by simp) (Nat.le_refl _) (by simp) (by simp [AV.clean, AV.clean1]) rfl, .inl rfl, ⟨True, trivial⟩, rfl⟩
    rw [if_neg (fun q => h1 q.2), if_pos (of_eq_false h0)] at hb
    rcases em2 (s.kind = 1) with h3 | h3
    · have e8 : (if s.kind ≠ 1 ∨ n.mode ≠ 0 then s.fail 7 else s) = s := if_neg (by simp [h3, hm])
      rw [e8] at hb
      by_cases h2 : kindF s.vars n.var = 2
      · rw [if_neg (by simp [h2])] at hb
        have hb' := hb.symm
        subst hb'
        simp [SS, VS, GBk, sKind, hbl, h0, h1, h2, h3, hm]
        refine loop_ruleH (C := CNoR m) (sigCNoR m) (mixCNoR m) [1, 15] (fun i : Nat => ⟨[(0, .ptr 0 1 4 0 0), (3, .ptr 2 1 7 0 0), (6, .int .i64 i)], [SS (b.props (n.props.take i)).old 1 (b.props (n.props.take i)).vars.length (b.props (n.props.take i)).kind (b.props (n.props.take i)).e, VS (b.props (n.props.take i)).vars, GBk n]⟩) (fun i => i ≤ n.props.length) (fun i => n.props.length - i) (by kernel_rfl) ⟨0, Nat.zero_le _, weak_eq (by simp) (by simp [SS, VS, GBk, Rs.props])⟩ (fun i hi => ?_)
        have hbi := hbo.props (n.props.take i)
        by_cases hlt : i < n.props.length
        · have i1 : I64 ((i : Int) + 1) := by unfold I64; omega
          have hgi := hg.2 _ (ix_mem hlt)
          have ht := Rs.props_take (b := b) hlt
          generalize b.props (n.props.take i) = B at *
          simp [SS, VS, GBk, hlt, rowAt_enc hlt]
          refine AW_regionF (sigCNoR m) (mixCNoR m) [.pure, .pure, .read, .pure, .pure, .pure, .read, .pure, .pure, .pure, .read, .eff] [[],[],[1],[],[3,1,2],[2,1,3,4],[4,3,1,2,5],[],[7],[7,8],[8,7,9],[9,7,8,10,5,2,1,3,4,6,0]] (by kernel_rfl) (by kernel_rfl) (by kernel_rfl) (by kernel_rfl) ?_
          simp [SS, VS, GBk, hlt, rowAt_enc hlt, gCheckR_o, hbi.1, hgi, i1]
          exact ⟨i + 1, by omega, by omega, weak_eq (by simp) (by simp [SS, VS, GBk, ht, KSt_A, KSt_V])⟩
        · obtain rfl : i = n.props.length := by omega
          rw [List.take_length]
          simp [SS, VS, GBk, hlt]
          exact ⟨⟨[], _⟩, weak_keep 2 (by simp) (Nat.le_refl _) (by simp) (by simp [AV.clean, AV.clean1]) rfl, .inl rfl, ⟨True, trivial⟩, rfl⟩
      · rw [if_pos h2] at hb
        simp [SS, VS, GBk, sKind, hbl, h0, h1, h2, h3, hm, gFailR_l, gIntroR_l, hs, hb, KSt_A, KSt_V]
        refine loop_ruleH (C := CNoR m) (sigCNoR m) (mixCNoR m) [1, 15] (fun i : Nat => ⟨[(0, .ptr 0 1 4 0 0), (3, .ptr 2 1 7 0 0), (6, .int .i64 i)], [SS (b.props (n.props.take i)).old 1 (b.props (n.props.take i)).vars.length (b.props (n.props.take i)).kind (b.props (n.props.take i)).e, VS (b.props (n.props.take i)).vars, GBk n]⟩) (fun i => i ≤ n.props.length) (fun i => n.props.length - i) (by kernel_rfl) ⟨0, Nat.zero_le _, weak_eq (by simp) (by simp [SS, VS, GBk, Rs.props])⟩ (fun i hi => ?_)
        have hbi := hbo.props (n.props.take i)
        by_cases hlt : i < n.props.length
        · have i1 : I64 ((i : Int) + 1) := by unfold I64; omega
          have hgi := hg.2 _ (ix_mem hlt)
          have ht := Rs.props_take (b := b) hlt
          generalize b.props (n.props.take i) = B at *
          simp [SS, VS, GBk, hlt, rowAt_enc hlt]
          refine AW_regionF (sigCNoR m) (mixCNoR m) [.pure, .pure, .read, .pure, .pure, .pure, .read, .pure, .pure, .pure, .read, .eff] [[],[],[1],[],[3,1,2],[2,1,3,4],[4,3,1,2,5],[],[7],[7,8],[8,7,9],[9,7,8,10,5,2,1,3,4,6,0]] (by kernel_rfl) (by kernel_rfl) (by kernel_rfl) (by kernel_rfl) ?_
          simp [SS, VS, GBk, hlt, rowAt_enc hlt, gCheckR_o, hbi.1, hgi, i1]
          exact ⟨i + 1, by omega, by omega, weak_eq (by simp) (by simp [SS, VS, GBk, ht, KSt_A, KSt_V])⟩
        · obtain rfl : i = n.props.length := by omega
          rw [List.take_length]
          simp [SS, VS, GBk, hlt]
          exact ⟨⟨[], _⟩, weak_keep 2 (by simp) (Nat.le_refl _) (by simp) (by simp [AV.clean, AV.clean1]) rfl, .inl rfl, ⟨True, trivial⟩, rfl⟩
    · have e8 : (if s.kind ≠ 1 ∨ n.mode ≠ 0 then s.fail 7 else s) = s.fail 7 := if_pos (.inl (of_eq_false h3))
      rw [e8] at hb
      obtain ⟨b7, hb7⟩ : ∃ b7, s.fail 7 = b7 := ⟨_, rfl⟩
      rw [hb7] at hb
      by_cases h2 : kindF s.vars n.var = 2
      · rw [if_neg (by simp [h2])] at hb
        have hb' := hb.symm
        subst hb'
        simp [SS, VS, GBk, sKind, hbl, h0, h1, h2, h3, hm, gFailR_l, gIntroR_l, hs, hb7, KSt_A, KSt_V]
        refine loop_ruleH (C := CNoR m) (sigCNoR m) (mixCNoR m) [1, 15] (fun i : Nat => ⟨[(0, .ptr 0 1 4 0 0), (3, .ptr 2 1 7 0 0), (6, .int .i64 i)], [SS (b.props (n.props.take i)).old 1 (b.props (n.props.take i)).vars.length (b.props (n.props.take i)).kind (b.props (n.props.take i)).e, VS (b.props (n.props.take i)).vars, GBk n]⟩) (fun i => i ≤ n.props.length) (fun i => n.props.length - i) (by kernel_rfl) ⟨0, Nat.zero_le _, weak_eq (by simp) (by simp [SS, VS, GBk, Rs.props])⟩ (fun i hi => ?_)
        have hbi := hbo.props (n.props.take i)
        by_cases hlt : i < n.props.length
        · have i1 : I64 ((i : Int) + 1) := by unfold I64; omega
          have hgi := hg.2 _ (ix_mem hlt)
          have ht := Rs.props_take (b := b) hlt
          generalize b.props (n.props.take i) = B at *
          simp [SS, VS, GBk, hlt, rowAt_enc hlt]
          refine AW_regionF (sigCNoR m) (mixCNoR m) [.pure, .pure, .read, .pure, .pure, .pure, .read, .pure, .pure, .pure, .read, .eff] [[],[],[1],[],[3,1,2],[2,1,3,4],[4,3,1,2,5],[],[7],[7,8],[8,7,9],[9,7,8,10,5,2,1,3,4,6,0]] (by kernel_rfl) (by kernel_rfl) (by kernel_rfl) (by kernel_rfl) ?_
          simp [SS, VS, GBk, hlt, rowAt_enc hlt, gCheckR_o, hbi.1, hgi, i1]
          exact ⟨i + 1, by omega, by omega, weak_eq (by simp) (by simp [SS, VS, GBk, ht, KSt_A, KSt_V])⟩
        · obtain rfl : i = n.props.length := by omega
          rw [List.take_length]
          simp [SS, VS, GBk, hlt]
          exact ⟨⟨[], _⟩, weak_keep 2 (by simp) (Nat.le_refl _) (by simp) (by simp [AV.clean, AV.clean1]) rfl, .inl rfl, ⟨True, trivial⟩, rfl⟩
      · rw [if_pos h2] at hb
        simp [SS, VS, GBk, sKind, hbl, h0, h1, h2, h3, hm, gFailR_l, gIntroR_l, hs, hb7, hb, KSt_A, KSt_V]
        refine loop_ruleH (C := CNoR m) (sigCNoR m) (mixCNoR m) [1, 15] (fun i : Nat => ⟨[(0, .ptr 0 1 4 0 0), (3, .ptr 2 1 7 0 0), (6, .int .i64 i)], [SS (b.props (n.props.take i)).old 1 (b.props (n.props.take i)).vars.length (b.props (n.props.take i)).kind (b.props (n.props.take i)).e, VS (b.props (n.props.take i)).vars, GBk n]⟩) (fun i => i ≤ n.props.length) (fun i => n.props.length - i) (by kernel_rfl) ⟨0, Nat.zero_le _, weak_eq (by simp) (by simp [SS, VS, GBk, Rs.props])⟩ (fun i hi => ?_)
        have hbi := hbo.props (n.props.take i)
        by_cases hlt : i < n.props.length
        · have i1 : I64 ((i : Int) + 1) := by unfold I64; omega
          have hgi := hg.2 _ (ix_mem hlt)
          have ht := Rs.props_take (b := b) hlt
          generalize b.props (n.props.take i) = B at *
          simp [SS, VS, GBk, hlt, rowAt_enc hlt]
          refine AW_regionF (sigCNoR m) (mixCNoR m) [.pure, .pure, .read, .pure, .pure, .pure, .read, .pure, .pure, .pure, .read, .eff] [[],[],[1],[],[3,1,2],[2,1,3,4],[4,3,1,2,5],[],[7],[7,8],[8,7,9],[9,7,8,10,5,2,1,3,4,6,0]] (by kernel_rfl) (by kernel_rfl) (by kernel_rfl) (by kernel_rfl) ?_
          simp [SS, VS, GBk, hlt, rowAt_enc hlt, gCheckR_o, hbi.1, hgi, i1]
          exact ⟨i + 1, by omega, by omega, weak_eq (by simp) (by simp [SS, VS, GBk, ht, KSt_A, KSt_V])⟩
        · obtain rfl : i = n.props.length := by omega
          rw [List.take_length]
          simp [SS, VS, GBk, hlt]
          exact ⟨⟨[], _⟩, weak_keep 2 (by simp) (Nat.le_refl _) (by simp) (by simp [AV.clean, AV.clean1]) rfl, .inl rfl, ⟨True, trivial⟩, rfl⟩
  · have hmm := of_eq_false hm
    rcases em2 (n.var = ⟨#[]⟩) with h0 | h0
    · rw [if_neg (by simp [h0]), if_neg (by simp [h0])] at hb
      have hb' := hb.symm
      subst hb'
      simp [SS, VS, GBk, sKind, hbl, h0, hm]
      refine loop_ruleH (C := CNoR m) (sigCNoR m) (mixCNoR m) [1, 15] (fun i : Nat => ⟨[(0, .ptr 0 1 4 0 0), (3, .ptr 2 1 7 0 0), (6, .int .i64 i)], [SS (b.props (n.props.take i)).old 1 (b.props (n.props.take i)).vars.length (b.props (n.props.take i)).kind (b.props (n.props.take i)).e, VS (b.props (n.props.take i)).vars, GBk n]⟩) (fun i => i ≤ n.props.length) (fun i => n.props.length - i) (by kernel_rfl) ⟨0, Nat.zero_le _, weak_eq (by simp) (by simp [SS, VS, GBk, Rs.props])⟩ (fun i hi => ?_)
      have hbi := hbo.props (n.props.take i)
      by_cases hlt : i < n.props.length
      · have i1 : I64 ((i : Int) + 1) := by unfold I64; omega
        have hgi := hg.2 _ (ix_mem hlt)
        have ht := Rs.props_take (b := b) hlt
        generalize b.props (n.props.take i) = B at *
        simp [SS, VS, GBk, hlt, rowAt_enc hlt]
        refine AW_regionF (sigCNoR m) (mixCNoR m) [.pure, .pure, .read, .pure, .pure, .pure, .read, .pure, .pure, .pure, .read, .eff] [[],[],[1],[],[3,1,2],[2,1,3,4],[4,3,1,2,5],[],[7],[7,8],[8,7,9],[9,7,8,10,5,2,1,3,4,6,0]] (by kernel_rfl) (by kernel_rfl) (by kernel_rfl) (by kernel_rfl) ?_
        simp [SS, VS, GBk, hlt, rowAt_enc hlt, gCheckR_o, hbi.1, hgi, i1]
        exact ⟨i + 1, by omega, by omega, weak_eq (by simp) (by simp [SS, VS, GBk, ht, KSt_A, KSt_V])⟩
      · obtain rfl : i = n.props.length := by omega
        rw [List.take_length]
        simp [SS, VS, GBk, hlt]
        exact ⟨⟨[], _⟩, weak_keep 2 (by simp) (Nat.le_refl _) (by simp) (by simp [AV.clean, AV.clean1]) rfl, .inl rfl, ⟨True, trivial⟩, rfl⟩
    by_cases h1 : kindF s.vars n.var = 0
    · rw [if_pos ⟨of_eq_false h0, h1⟩, if_neg hmm] at hb
      simp [SS, VS, GBk, sKind, hbl, h0, h1, hm, gFailR_l, gIntroR_l, hs, hb, KSt_A, KSt_V]
      refine loop_ruleH (C := CNoR m) (sigCNoR m) (mixCNoR m) [1, 15] (fun i : Nat => ⟨[(0, .ptr 0 1 4 0 0), (3, .ptr 2 1 7 0 0), (6, .int .i64 i)], [SS (b.props (n.props.take i)).old 1 (b.props (n.props.take i)).vars.length (b.props (n.props.take i)).kind (b.props (n.props.take i)).e, VS (b.props (n.props.take i)).vars, GBk n]⟩) (fun i => i ≤ n.props.length) (fun i => n.props.length - i) (by kernel_rfl) ⟨0, Nat.zero_le _, weak_eq (by simp) (by simp [SS, VS, GBk, Rs.props])⟩ (fun i hi => ?_)
      have hbi := hbo.props (n.props.take i)
      by_cases hlt : i < n.props.length
      · have i1 : I64 ((i : Int) + 1) := by unfold I64; omega
        have hgi := hg.2 _ (ix_mem hlt)
        have ht := Rs.props_take (b := b) hlt
        generalize b.props (n.props.take i) = B at *
        simp [SS, VS, GBk, hlt, rowAt_enc hlt]
        refine AW_regionF (sigCNoR m) (mixCNoR m) [.pure, .pure, .read, .pure, .pure, .pure, .read, .pure, .pure, .pure, .read, .eff] [[],[],[1],[],[3,1,2],[2,1,3,4],[4,3,1,2,5],[],[7],[7,8],[8,7,9],[9,7,8,10,5,2,1,3,4,6,0]] (by kernel_rfl) (by kernel_rfl) (by kernel_rfl) (by kernel_rfl) ?_
        simp [SS, VS, GBk, hlt, rowAt_enc hlt, gCheckR_o, hbi.1, hgi, i1]
        exact ⟨i + 1, by omega, by omega, weak_eq (by simp) (by simp [SS, VS, GBk, ht, KSt_A, KSt_V])⟩
      · obtain rfl : i = n.props.length := by omega
        rw [List.take_length]
        simp [SS, VS, GBk, hlt]
        exact ⟨⟨[], _⟩, weak_keep 2 (by simp) (Nat.le_refl _) (by simp) (by simp [AV.clean, AV.clean1]) rfl, .inl rfl, ⟨True, trivial⟩, rfl⟩
    rw [if_neg (fun q => h1 q.2), if_pos (of_eq_false h0)] at hb
    rcases em2 (s.kind = 1) with h3 | h3
    · have e8 : (if s.kind ≠ 1 ∨ n.mode ≠ 0 then s.fail 7 else s) = s.fail 7 := if_pos (.inr hmm)
      rw [e8] at hb
      obtain ⟨b7, hb7⟩ : ∃ b7, s.fail 7 = b7 := ⟨_, rfl⟩
      rw [hb7] at hb
      by_cases h2 : kindF s.vars n.var = 2
      · rw [if_neg (by simp [h2])] at hb
        have hb' := hb.symm
        subst hb'
        simp [SS, VS, GBk, sKind, hbl, h0, h1, h2, h3, hm, gFailR_l, gIntroR_l, hs, hb7, KSt_A, KSt_V]
        refine loop_ruleH (C := CNoR m) (sigCNoR m) (mixCNoR m) [1, 15] (fun i : Nat => ⟨[(0, .ptr 0 1 4 0 0), (3, .ptr 2 1 7 0 0), (6, .int .i64 i)], [SS (b.props (n.props.take i)).old 1 (b.props (n.props.take i)).vars.length (b.props (n.props.take i)).kind (b.props (n.props.take i)).e, VS (b.props (n.props.take i)).vars, GBk n]⟩) (fun i => i ≤ n.props.length) (fun i => n.props.length - i) (by kernel_rfl) ⟨0, Nat.zero_le _, weak_eq (by simp) (by simp [SS, VS, GBk, Rs.props])⟩ (fun i hi => ?_)
        have hbi := hbo.props (n.props.take i)
        by_cases hlt : i < n.props.length
        · have i1 : I64 ((i : Int) + 1) := by unfold I64; omega
          have hgi := hg.2 _ (ix_mem hlt)
          have ht := Rs.props_take (b := b) hlt
          generalize b.props (n.props.take i) = B at *
          simp [SS, VS, GBk, hlt, rowAt_enc hlt]
          refine AW_regionF (sigCNoR m) (mixCNoR m) [.pure, .pure, .read, .pure, .pure, .pure, .read, .pure, .pure, .pure, .read, .eff] [[],[],[1],[],[3,1,2],[2,1,3,4],[4,3,1,2,5],[],[7],[7,8],[8,7,9],[9,7,8,10,5,2,1,3,4,6,0]] (by kernel_rfl) (by kernel_rfl) (by kernel_rfl) (by kernel_rfl) ?_
          simp [SS, VS, GBk, hlt, rowAt_enc hlt, gCheckR_o, hbi.1, hgi, i1]
          exact ⟨i + 1, by omega, by omega, weak_eq (by simp) (by simp [SS, VS, GBk, ht, KSt_A, KSt_V])⟩
        · obtain rfl : i = n.props.length := by omega
          rw [List.take_length]
          simp [SS, VS, GBk, hlt]
          exact ⟨⟨[], _⟩, weak_keep 2 (by simp) (Nat.le_refl _) (by simp) (by simp [AV.clean, AV.clean1]) rfl, .inl rfl, ⟨True, trivial⟩, rfl⟩
      · rw [if_pos h2] at hb
        simp [SS, VS, GBk, sKind, hbl, h0, h1, h2, h3, hm, gFailR_l, gIntroR_l, hs, hb7, hb, KSt_A, KSt_V]
        refine loop_ruleH (C := CNoR m) (sigCNoR m) (mixCNoR m) [1, 15] (fun i : Nat => ⟨[(0, .ptr 0 1 4 0 0), (3, .ptr 2 1 7 0 0), (6, .int .i64 i)], [SS (b.props (n.props.take i)).old 1 (b.props (n.props.take i)).vars.length (b.props (n.props.take i)).kind (b.props (n.props.take i)).e, VS (b.props (n.props.take i)).vars, GBk n]⟩) (fun i => i ≤ n.props.length) (fun i => n.props.length - i) (by kernel_rfl) ⟨0, Nat.zero_le _, weak_eq (by simp) (by simp [SS, VS, GBk, Rs.props])⟩ (fun i hi => ?_)
        have hbi := hbo.props (n.props.take i)
        by_cases hlt : i < n.props.length
        · have i1 : I64 ((i : Int) + 1) := by unfold I64; omega
          have hgi := hg.2 _ (ix_mem hlt)
          have ht := Rs.props_take (b := b) hlt
          generalize b.props (n.props.take i) = B at *
          simp [SS, VS, GBk, hlt, rowAt_enc hlt]
          refine AW_regionF (sigCNoR m) (mixCNoR m) [.pure, .pure, .read, .pure, .pure, .pure, .read, .pure, .pure, .pure, .read, .eff] [[],[],[1],[],[3,1,2],[2,1,3,4],[4,3,1,2,5],[],[7],[7,8],[8,7,9],[9,7,8,10,5,2,1,3,4,6,0]] (by kernel_rfl) (by kernel_rfl) (by kernel_rfl) (by kernel_rfl) ?_
          simp [SS, VS, GBk, hlt, rowAt_enc hlt, gCheckR_o, hbi.1, hgi, i1]
          exact ⟨i + 1, by omega, by omega, weak_eq (by simp) (by simp [SS, VS, GBk, ht, KSt_A, KSt_V])⟩
        · obtain rfl : i = n.props.length := by omega
          rw [List.take_length]
          simp [SS, VS, GBk, hlt]
          exact ⟨⟨[], _⟩, weak_keep 2 (by simp) (Nat.le_refl _) (by simp) (by simp [AV.clean, AV.clean1]) rfl, .inl rfl, ⟨True, trivial⟩, rfl⟩
    · have e8 : (if s.kind ≠ 1 ∨ n.mode ≠ 0 then s.fail 7 else s) = s.fail 7 := if_pos (.inl (of_eq_false h3))
      rw [e8] at hb
      obtain ⟨b7, hb7⟩ : ∃ b7, s.fail 7 = b7 := ⟨_, rfl⟩
      rw [hb7] at hb
      by_cases h2 : kindF s.vars n.var = 2
      · rw [if_neg (by simp [h2])] at hb
        have hb' := hb.symm
        subst hb'
        simp [SS, VS, GBk, sKind, hbl, h0, h1, h2, h3, hm, gFailR_l, gIntroR_l, hs, hb7, KSt_A, KSt_V]
        refine loop_ruleH (C := CNoR m) (sigCNoR m) (mixCNoR m) [1, 15] (fun i : Nat => ⟨[(0, .ptr 0 1 4 0 0), (3, .ptr 2 1 7 0 0), (6, .int .i64 i)], [SS (b.props (n.props.take i)).old 1 (b.props (n.props.take i)).vars.length (b.props (n.props.take i)).kind (b.props (n.props.take i)).e, VS (b.props (n.props.take i)).vars, GBk n]⟩) (fun i => i ≤ n.props.length) (fun i => n.props.length - i) (by kernel_rfl) ⟨0, Nat.zero_le _, weak_eq (by simp) (by simp [SS, VS, GBk, Rs.props])⟩ (fun i hi => ?_)
        have hbi := hbo.props (n.props.take i)
        by_cases hlt : i < n.props.length
        · have i1 : I64 ((i : Int) + 1) := by unfold I64; omega
          have hgi := hg.2 _ (ix_mem hlt)
          have ht := Rs.props_take (b := b) hlt
          generalize b.props (n.props.take i) = B at *
          simp [SS, VS, GBk, hlt, rowAt_enc hlt]
          refine AW_regionF (sigCNoR m) (mixCNoR m) [.pure, .pure, .read, .pure, .pure, .pure, .read, .pure, .pure, .pure, .read, .eff] [[],[],[1],[],[3,1,2],[2,1,3,4],[4,3,1,2,5],[],[7],[7,8],[8,7,9],[9,7,8,10,5,2,1,3,4,6,0]] (by kernel_rfl) (by kernel_rfl) (by kernel_rfl) (by kernel_rfl) ?_
          simp [SS, VS, GBk, hlt, rowAt_enc hlt, gCheckR_o, hbi.1, hgi, i1]
          exact ⟨i + 1, by omega, by omega, weak_eq (by simp) (by simp [SS, VS, GBk, ht, KSt_A, KSt_V])⟩
        · obtain rfl : i = n.props.length := by omega
          rw [List.take_length]
          simp [SS, VS, GBk, hlt]
          exact ⟨⟨[], _⟩, weak_keep 2 (by simp) (Nat.le_refl _) (by simp) (by simp [AV.clean, AV.clean1]) rfl, .inl rfl, ⟨True, trivial⟩, rfl⟩
      · rw [if_pos h2] at hb
        simp [SS, VS, GBk, sKind, hbl, h0, h1, h2, h3, hm, gFailR_l, gIntroR_l, hs, hb7, hb, KSt_A, KSt_V]
        refine loop_ruleH (C := CNoR m) (sigCNoR m) (mixCNoR m) [1, 15] (fun i : Nat => ⟨[(0, .ptr 0 1 4 0 0), (3, .ptr 2 1 7 0 0), (6, .int .i64 i)], [SS (b.props (n.props.take i)).old 1 (b.props (n.props.take i)).vars.length (b.props (n.props.take i)).kind (b.props (n.props.take i)).e, VS (b.props (n.props.take i)).vars, GBk n]⟩) (fun i => i ≤ n.props.length) (fun i => n.props.length - i) (by kernel_rfl) ⟨0, Nat.zero_le _, weak_eq (by simp) (by simp [SS, VS, GBk, Rs.props])⟩ (fun i hi => ?_)
        have hbi := hbo.props (n.props.take i)
        by_cases hlt : i < n.props.length
        · have i1 : I64 ((i : Int) + 1) := by unfold I64; omega
          have hgi := hg.2 _ (ix_mem hlt)
          have ht := Rs.props_take (b := b) hlt
          generalize b.props (n.props.take i) = B at *
          simp [SS, VS, GBk, hlt, rowAt_enc hlt]
          refine AW_regionF (sigCNoR m) (mixCNoR m) [.pure, .pure, .read, .pure, .pure, .pure, .read, .pure, .pure, .pure, .read, .eff] [[],[],[1],[],[3,1,2],[2,1,3,4],[4,3,1,2,5],[],[7],[7,8],[8,7,9],[9,7,8,10,5,2,1,3,4,6,0]] (by kernel_rfl) (by kernel_rfl) (by kernel_rfl) (by kernel_rfl) ?_
          simp [SS, VS, GBk, hlt, rowAt_enc hlt, gCheckR_o, hbi.1, hgi, i1]
          exact ⟨i + 1, by omega, by omega, weak_eq (by simp) (by simp [SS, VS, GBk, ht, KSt_A, KSt_V])⟩
        · obtain rfl : i = n.props.length := by omega
          rw [List.take_length]
          simp [SS, VS, GBk, hlt]
          exact ⟨⟨[], _⟩, weak_keep 2 (by simp) (Nat.le_refl _) (by simp) (by simp [AV.clean, AV.clean1]) rfl, .inl rfl, ⟨True, trivial⟩, rfl⟩
end
end Go.Proofs.YtgjljfbohpnfcaaGreat


namespace Go.Proofs.YtgjljfbohpnfcaaGreat
open Go.RowKit
set_option linter.unusedSimpArgs false
set_option linter.unusedVariables false
set_option maxRecDepth 100000
def LabP (p : PathPat) : Prop := ∀ n ∈ p.nodes, n.labels.length + n.props.length ≤ maxLen
theorem OKR.walk {s : Rs} (h : OKR s) (p : PathPat) : ∀ k, OKR (s.walk p k)
  | 0 => h
  | k + 1 => by
    rw [Rs.walk]
    split
    · exact ((h.walk p k).node _).edge _
    · exact (h.walk p k).node _
theorem OKR.pathV {s : Rs} (h : OKR s) (v : ByteArray) : OKR (s.pathV v) := by
  unfold Rs.pathV
  dsimp only
  repeat' split
  all_goals first | exact h | exact ((h.fail _).fail _).intro _ _ | exact (h.fail _).intro _ _ | exact h.intro _ _
theorem OKR.path {s : Rs} (h : OKR s) (p : PathPat) : OKR (s.path p) := (h.walk p _).pathV _
def fPathR : List AV → Option ((Rs → Prop) × (Rs → Rs))
  | [a] => some (fun s => OKR s ∧ a = Enc.enc (Enc.dec a : PathPat) ∧ GoodP (Enc.dec a : PathPat) ∧ LabP (Enc.dec a : PathPat), fun s => s.path (Enc.dec a))
  | _ => none
def gPathR := gM2 KSt fPathR
section
variable {m : Int}
noncomputable def CPaR (m : Int) : Ctx := mkC Tryz.prog (G m) [(45, .gen gFailR), (46, .gen gIntroR), (66, .gen gNodeR), (67, .gen gEdgeR), (21, .pure sKind)]
@[simp] theorem CPaR_P (m : Int) : (CPaR m).P = Tryz.prog := rfl
@[simp] theorem CPaR_G (m : Int) : (CPaR m).G = (G m) := rfl
@[simp] theorem CPaR_1 (m : Int) : (CPaR m).S 45 = .gen gFailR := rfl
@[simp] theorem CPaR_2 (m : Int) : (CPaR m).S 46 = .gen gIntroR := rfl
@[simp] theorem CPaR_3 (m : Int) : (CPaR m).S 66 = .gen gNodeR := rfl
@[simp] theorem CPaR_4 (m : Int) : (CPaR m).S 67 = .gen gEdgeR := rfl
@[simp] theorem CPaR_5 (m : Int) : (CPaR m).S 21 = .pure sKind := rfl
theorem mixCPaR (m : Int) : (CPaR m).P.follows .mixedOrders = true := mixed
theorem sigCPaR (m : Int) : SigOK (CPaR m) := sigOK_cons (entryGen (failR) Tryz.func45 rfl (by decide)) (sigOK_cons (entryGen (introR) Tryz.func46 rfl (by decide)) (sigOK_cons (entryGen (nodeR) Tryz.func66 rfl (by decide)) (sigOK_cons (entryGen (edgeR) Tryz.func67 rfl (by decide)) (sigOK_cons (entryPure (kindR) Tryz.func21 rfl (by decide)) (sigOK_nil _ _)))))
set_option maxHeartbeats 16000000 in
theorem pathRS : GenOK Tryz.prog (G m) 43 gPathR := by
  refine gen_frame2 KSt (gen_of_avcH (C := CPaR m) (sigCPaR m) (mixCPaR m) [10] Tryz.func43 rfl rfl rfl (by kernel_rfl) (fun avs H ob r H' h hob => ?_))
  obtain ⟨rest, s, p, st, rfl, rfl, hf, hp, rfl, rfl, hd⟩ := gM2c_inv KSt h hob
  unfold fPathR at hf
  split at hf
  case h_2 => cases hf
  rename_i a
  simp only [Option.some.injEq, Prod.mk.injEq] at hf
  obtain ⟨rfl, rfl⟩ := hf
  obtain ⟨hs, ha, ⟨⟨g1, g2⟩, g3, g4⟩, hlab⟩ := hp
  generalize (Enc.dec a : PathPat) = p at *
  subst ha
  refine ⟨(by show 2 ≤ _; decide), ?_⟩
  show avcH _ _ _ _ _ ⟨argsρ 0 [.ptr 0 1 4 0 0, Enc.enc p], [SS s.old 1 s.vars.length s.kind s.e, VS s.vars]⟩ (wEnd _ _ _ fun ex st' => _ ∧ ∃ ob', _ ∧ _ ∧ st'.H = [KSt.A (s.path p) 1, KSt.V (s.path p)])
  clear h hd
  have g1' : p.nodes.length ≤ 9223372036854775807 := g1
  have g3' : p.edges.length ≤ 9223372036854775807 := g3
  simp [argsρ, SS, VS]
  refine loop_ruleH (C := CPaR m) (sigCPaR m) (mixCPaR m) [10] (fun i : Nat => ⟨[(0, .ptr 0 1 4 0 0), (3, .ptr 2 1 3 0 0), (4, .int .i64 i)], [SS (s.walk p i).old 1 (s.walk p i).vars.length (s.walk p i).kind (s.walk p i).e, VS (s.walk p i).vars, PBk p]⟩) (fun i => i ≤ p.nodes.length) (fun i => p.nodes.length - i) (by kernel_rfl) ⟨0, Nat.zero_le _, weak_eq (by simp) (by simp [SS, VS, PBk, Rs.walk])⟩ (fun i hi => ?_)
  have hbi := hs.walk p i
  by_cases hlt : i < p.nodes.length
  · have i1 : I64 ((i : Int) + 1) := by unfold I64; omega
    have hgn := g2 _ (ix_mem hlt)
    have hln := hlab _ (ix_mem hlt)
    have hbn := hbi.node (ix p.nodes i)
    obtain ⟨R, hR⟩ : ∃ R, s.walk p (i + 1) = R := ⟨_, rfl⟩
    have ht := hR
    rw [Rs.walk] at ht
    have hRk : R.kind = s.kind := by rw [← hR]; exact s.walk_kind p _
    generalize s.walk p i = b at *
    by_cases he : i < p.edges.length
    · have hge := g4 _ (ix_mem he)
      rw [if_pos he] at ht
      generalize hB : b.node (ix p.nodes i) = B at *
      simp [SS, VS, PBk, hlt, rowAt_enc hlt, gNodeR_l, hbi, hgn, hln, hB, KSt_A, KSt_V, he, rowAt_enc he, gEdgeR_l, hbn, hge, ht, i1]
      exact ⟨i + 1, by omega, by omega, weak_eq (by simp) (by simp [SS, VS, PBk, hR, hRk])⟩
    · rw [if_neg he] at ht
      simp [SS, VS, PBk, hlt, rowAt_enc hlt, gNodeR_l, hbi, hgn, hln, KSt_A, KSt_V, he, ht, i1]
      exact ⟨i + 1, by omega, by omega, weak_eq (by simp) (by simp [SS, VS, PBk, hR, hRk])⟩
  · obtain rfl : i = p.nodes.length := by omega
    obtain ⟨r, hr⟩ : ∃ r, s.path p = r := ⟨_, rfl⟩
    rw [hr, KSt_A, KSt_V]
    unfold Rs.path at hr
    generalize s.walk p p.nodes.length = b at *
    unfold Rs.pathV at hr
    dsimp only at hr
    rcases em2 (p.var = ⟨#[]⟩) with h0 | h0
    · rw [if_pos (of_eq_true h0)] at hr
      subst hr
      simp [SS, VS, PBk, hlt, h0]
      (refine ⟨⟨[], _⟩, weak_keep 2 (by simp) (Nat.le_refl _) (by simp) (by simp [SS, VS, AV.clean, AV.clean1]) rfl, ?_⟩; first | exact ⟨.inl rfl, ⟨True, trivial⟩, by simp [KSt_A, KSt_V, SS, VS]⟩ | exact ⟨.inl rfl, True, rfl, trivial, by simp [KSt_A, KSt_V, SS, VS]⟩ | exact ⟨.inr rfl, ⟨True, trivial⟩, by simp [KSt_A, KSt_V, SS, VS]⟩ | exact ⟨.inr rfl, True, rfl, trivial, by simp [KSt_A, KSt_V, SS, VS]⟩)
    rw [if_neg (of_eq_false h0)] at hr
    obtain ⟨b1, hb1⟩ : ∃ b1, (if b.kind = 5 then b.fail 8 else b) = b1 := ⟨_, rfl⟩
    rw [hb1] at hr
    have hbo : OKR b1 := by
      rw [← hb1]
      split
      · exact hbi.fail _
      · exact hbi
    have hbl := len24 hbo.2
    rcases em2 (b.kind = 5) with h5 | h5
    case' inl =>
      rw [if_pos (of_eq_true h5)] at hb1
      simp [SS, VS, PBk, hlt, h0, h5, gFailR_l, hb1, KSt_A, KSt_V]
    case' inr =>
      rw [if_neg (of_eq_false h5)] at hb1
      have hb1' := hb1.symm
      subst hb1'
      simp [SS, VS, PBk, hlt, h0, h5]
    all_goals
      refine AW_regionF (sigCPaR m) (mixCPaR m) [.pure, .pure, .pure, .read, .pure, .read, .read, .pure] [[],[0],[0,1],[1,0,2],[],[4],[4,5,2,0,1,3],[3,1,0,2,5,4,6]] (by kernel_rfl) (by kernel_rfl) (by kernel_rfl) (by kernel_rfl) ?_
      by_cases h1 : kindF b1.vars p.var = 0
      · rw [if_neg (by simp [h1])] at hr
        simp [SS, VS, PBk, sKind, hbl, h1, gIntroR_l, hbo, hr, KSt_A, KSt_V]
        (refine ⟨⟨[], _⟩, weak_keep 2 (by simp) (Nat.le_refl _) (by simp) (by simp [SS, VS, AV.clean, AV.clean1]) rfl, ?_⟩; first | exact ⟨.inl rfl, ⟨True, trivial⟩, by simp [KSt_A, KSt_V, SS, VS]⟩ | exact ⟨.inl rfl, True, rfl, trivial, by simp [KSt_A, KSt_V, SS, VS]⟩ | exact ⟨.inr rfl, ⟨True, trivial⟩, by simp [KSt_A, KSt_V, SS, VS]⟩ | exact ⟨.inr rfl, True, rfl, trivial, by simp [KSt_A, KSt_V, SS, VS]⟩)
      · rw [if_pos h1] at hr
        have hb2 := hbo.fail 7
        generalize hB : b1.fail 7 = b2 at *
        simp [SS, VS, PBk, sKind, hbl, h1, gFailR_l, hB, gIntroR_l, hb2, hr, KSt_A, KSt_V]
        (refine ⟨⟨[], _⟩, weak_keep 2 (by simp) (Nat.le_refl _) (by simp) (by simp [SS, VS, AV.clean, AV.clean1]) rfl, ?_⟩; first | exact ⟨.inl rfl, ⟨True, trivial⟩, by simp [KSt_A, KSt_V, SS, VS]⟩ | exact ⟨.inl rfl, True, rfl, trivial, by simp [KSt_A, KSt_V, SS, VS]⟩ | exact ⟨.inr rfl, ⟨True, trivial⟩, by simp [KSt_A, KSt_V, SS, VS]⟩ | exact ⟨.inr rfl, True, rfl, trivial, by simp [KSt_A, KSt_V, SS, VS]⟩)
end
end Go.Proofs.YtgjljfbohpnfcaaGreat


namespace Go.Proofs.YtgjljfbohpnfcaaGreat
open Go.RowKit
set_option linter.unusedSimpArgs false
set_option linter.unusedVariables false
set_option maxRecDepth 100000
theorem Rs.itemL_take {b : Rs} {l : List Item} {i : Nat} (h : i < l.length) : b.itemL (l.take (i + 1)) = (b.itemL (l.take i)).item (ix l i) := by
  unfold Rs.itemL
  rw [List.take_succ_eq_append_getElem h, List.foldl_append, ix_lt h]
  rfl
theorem Rs.item_old (s : Rs) (x : Item) : (s.item x).old = s.old := by
  unfold Rs.item
  dsimp only
  split
  · rw [Rs.fail_old, Rs.fail_old]
  · rw [Rs.fail_old]
theorem Rs.item_kind (s : Rs) (x : Item) : (s.item x).kind = s.kind := by
  unfold Rs.item
  dsimp only
  split
  · rw [Rs.fail_kind, Rs.fail_kind]
  · rw [Rs.fail_kind]
theorem Rs.item_len (s : Rs) (x : Item) : (s.item x).vars.length = s.vars.length + 1 := by
  unfold Rs.item
  dsimp only
  split
  · simp [Rs.fail_vars]
  · simp [Rs.fail_vars]
theorem Rs.itemL_keeps : ∀ {l : List Item} {s : Rs}, (s.itemL l).old = s.old ∧ (s.itemL l).kind = s.kind ∧ (s.itemL l).vars.length = s.vars.length + l.length
  | [], _ => ⟨rfl, rfl, rfl⟩
  | a :: r, s => by
    obtain ⟨h1, h2, h3⟩ := Rs.itemL_keeps (l := r) (s := s.item a)
    refine ⟨h1.trans (s.item_old a), h2.trans (s.item_kind a), ?_⟩
    have := s.item_len a
    show ((s.item a).itemL r).vars.length = _
    rw [h3, this, List.length_cons]
    omega
theorem Rs.item_eq (b : Rs) (x : Item) : b.item x = ⟨b.old, b.vars ++ [⟨x.as_, if (if x.e.op = 2 then kindF b.old x.e.name else 4) = 0 then 4 else (if x.e.op = 2 then kindF b.old x.e.name else 4)⟩], b.kind, if kindF b.vars x.as_ = 0 then addE b.e (checkX b.old x.e true) else addE (addE b.e (checkX b.old x.e true)) 7⟩ := by
  unfold Rs.item
  dsimp only
  rw [Rs.fail_eq b]
  by_cases h : kindF b.vars x.as_ = 0
  · simp only [h, ne_eq, not_true, if_false, if_true]
  · simp only [h, ne_eq, not_false_iff, if_false, if_true, Rs.fail_eq]
theorem gFailR_12 {o v : List Cnt} {k x : Int} {q : Blk} {Z : List Blk} {e : Int} : gFailR [.ptr 1 1 4 0 0, .int .i64 e] (q :: ⟨79, 4, [[.slice 2 false (encRows o), .own 2 v.length, .int .i64 k, .int .i64 x]], true, false⟩ :: ⟨48, 2, encRows v, true, true⟩ :: Z) = some (True, .tup [], q :: ⟨79, 4, [[.slice 2 false (encRows o), .own 2 v.length, .int .i64 k, .int .i64 (addE x e)]], true, false⟩ :: ⟨48, 2, encRows v, true, true⟩ :: Z) := by
  have h := gM2_eq KSt (f := fFailR) (p := 1) (l := 2) (rest := [.int .i64 e]) (s := ⟨o, v, k, x⟩) (H := q :: KSt.A ⟨o, v, k, x⟩ 2 :: KSt.V ⟨o, v, k, x⟩ :: Z) rfl rfl rfl
  rw [Rs.fail_eq] at h
  simp [AV.deepArg, AV.isDeep] at h
  exact h
theorem gCheckR_o12 {o v : List Cnt} {k x : Int} {q : Blk} {Z : List Blk} {e : Expr} {w : Bool} : gCheckR [.ptr 1 1 4 0 0, .agg [.int .i64 e.op, .int .i64 e.v.kind, .int .i64 e.v.n, .int .i64 e.v.d, .str e.v.s, .slice 5 false (encRows e.v.l), .str e.name, .bool e.dist, .slice 9 false (encRows e.kids)], .slice 2 false (encRows o), .bool w] (q :: ⟨79, 4, [[.slice 2 false (encRows o), .own 2 v.length, .int .i64 k, .int .i64 x]], true, false⟩ :: ⟨48, 2, encRows v, true, true⟩ :: Z) = some (o.length ≤ 24 ∧ GoodE e, .tup [], q :: ⟨79, 4, [[.slice 2 false (encRows o), .own 2 v.length, .int .i64 k, .int .i64 (addE x (checkX o e w))]], true, false⟩ :: ⟨48, 2, encRows v, true, true⟩ :: Z) := by
  have h := gCheckR_go (p := 1) (l := 2) (s := ⟨o, v, k, x⟩) (e := e) (w := w) (H := q :: KSt.A ⟨o, v, k, x⟩ 2 :: KSt.V ⟨o, v, k, x⟩ :: Z) rfl rfl (by decide) o
  rw [Rs.fail_eq, enc_expr] at h
  exact h
def colsS (s : Rs) (l : List Item) : Rs := Rs.itemL { s with vars := [] } l
def gColsR : List AV → List Blk → Option (Prop × AV × List Blk) := fun args H => match args, H with
  | [.ptr 1 1 4 0 0, v], [q, a, b, c] => some ((q.deep = true ∧ c.deep = true ∧ a = KSt.A (KSt.un a b) 2 ∧ b = KSt.V (KSt.un a b)) ∧ OKR (KSt.un a b) ∧ v = Enc.enc (Enc.dec v : List Item) ∧ (Enc.dec v : List Item).length ≤ 16 ∧ ∀ i ∈ (Enc.dec v : List Item), GoodE i.e,
      .tup [], [q, KSt.A (colsS (KSt.un a b) (Enc.dec v)) 4, b, c, KSt.V (colsS (KSt.un a b) (Enc.dec v))])
  | _, _ => none
theorem gColsR_inv {args : List AV} {H : List Blk} {ob : Prop} {r : AV} {H' : List Blk} (h : gColsR args H = some (ob, r, H')) (hob : ob) :
    ∃ q s c l, args = [.ptr 1 1 4 0 0, Enc.enc l] ∧ H = [q, KSt.A s 2, KSt.V s, c] ∧ q.deep = true ∧ c.deep = true ∧ OKR s ∧ l.length ≤ 16 ∧ (∀ i ∈ l, GoodE i.e) ∧ r = .tup [] ∧ H' = [q, KSt.A (colsS s l) 4, KSt.V s, c, KSt.V (colsS s l)] := by
  unfold gColsR at h
  split at h
  · rename_i v q a b c
    simp only [Option.some.injEq, Prod.mk.injEq] at h
    obtain ⟨h1, h2, h3⟩ := h
    subst h1
    obtain ⟨⟨h4, h5, h6, h7⟩, h8, h9, h10, h11⟩ := hob
    exact ⟨q, KSt.un a b, c, Enc.dec v, by rw [← h9], by rw [← h6, ← h7], h4, h5, h8, h10, h11, h2.symm, by rw [← h3, ← h7]⟩
  · cases h
theorem gColsR_eq {q c : Blk} {o v : List Cnt} {k x : Int} {l : List Item} : gColsR [.ptr 1 1 4 0 0, .slice 10 false (encRows l)] [q, ⟨79, 4, [[.slice 2 false (encRows o), .own 2 v.length, .int .i64 k, .int .i64 x]], true, false⟩, ⟨48, 2, encRows v, true, true⟩, c] = some ((q.deep = true ∧ c.deep = true) ∧ OKR ⟨o, v, k, x⟩ ∧ l.length ≤ 16 ∧ ∀ i ∈ l, GoodE i.e, .tup [], [q, KSt.A (colsS ⟨o, v, k, x⟩ l) 4, VS v, c, KSt.V (colsS ⟨o, v, k, x⟩ l)]) := by
  have h1 : KSt.un (KSt.A ⟨o, v, k, x⟩ 2) (KSt.V ⟨o, v, k, x⟩) = ⟨o, v, k, x⟩ := KSt.un_A _ _
  have e1 : (Enc.dec (Enc.enc l) : List Item) = l := Enc.dec_enc l
  have h2 : gColsR [.ptr 1 1 4 0 0, Enc.enc l] [q, KSt.A ⟨o, v, k, x⟩ 2, KSt.V ⟨o, v, k, x⟩, c] = some ((q.deep = true ∧ c.deep = true) ∧ OKR ⟨o, v, k, x⟩ ∧ l.length ≤ 16 ∧ ∀ i ∈ l, GoodE i.e, .tup [], [q, KSt.A (colsS ⟨o, v, k, x⟩ l) 4, VS v, c, KSt.V (colsS ⟨o, v, k, x⟩ l)]) := by
    unfold gColsR
    simp only [h1, e1, true_and, and_true]
    rfl
  exact h2
section
variable {m : Int}
noncomputable def CCoR (m : Int) : Ctx := mkC Tryz.prog (G m) [(45, .gen gFailR), (44, .gen gCheckR), (21, .pure sKind)]
@[simp] theorem CCoR_P (m : Int) : (CCoR m).P = Tryz.prog := rfl
@[simp] theorem CCoR_G (m : Int) : (CCoR m).G = (G m) := rfl
@[simp] theorem CCoR_1 (m : Int) : (CCoR m).S 45 = .gen gFailR := rfl
@[simp] theorem CCoR_2 (m : Int) : (CCoR m).S 44 = .gen gCheckR := rfl
@[simp] theorem CCoR_3 (m : Int) : (CCoR m).S 21 = .pure sKind := rfl
theorem mixCCoR (m : Int) : (CCoR m).P.follows .mixedOrders = true := mixed
theorem sigCCoR (m : Int) : SigOK (CCoR m) := sigOK_cons (entryGen (failR) Tryz.func45 rfl (by decide)) (sigOK_cons (entryGen (checkRR) Tryz.func44 rfl (by decide)) (sigOK_cons (entryPure (kindR) Tryz.func21 rfl (by decide)) (sigOK_nil _ _)))
set_option maxHeartbeats 16000000 in
theorem colsRS : GenOK Tryz.prog (G m) 47 gColsR := by
  refine gen_of_avcH (C := CCoR m) (sigCCoR m) (mixCCoR m) [4, 9] Tryz.func47 rfl rfl rfl (by kernel_rfl) (fun avs H ob r H' h hob => ?_)
  obtain ⟨q, s, c, l, rfl, rfl, hq, hc, hs, hl, hg, rfl, rfl⟩ := gColsR_inv h hob
  clear h hob
  refine ⟨(by show 2 ≤ _; decide), ?_⟩
  show avcH _ _ _ _ _ ⟨argsρ 0 [.ptr 1 1 4 0 0, Enc.enc l], [q, SS s.old 2 s.vars.length s.kind s.e, VS s.vars, c]⟩ (wEnd _ _ _ fun ex st' => _ ∧ ∃ ob', _ ∧ _ ∧ st'.H = [q, KSt.A (colsS s l) 4, VS s.vars, c, KSt.V (colsS s l)])
  have hl' : l.length ≤ 9223372036854775807 := by omega
  simp [argsρ, SS, VS]
  refine loop_ruleH (C := CCoR m) (sigCCoR m) (mixCCoR m) [4, 9] (fun i : Nat => ⟨[(0, .ptr 1 1 4 0 0), (1, Enc.enc l), (4, .own 4 (colsS s (l.take i)).vars.length), (5, .int .i64 i)], [q, SS s.old 2 s.vars.length s.kind (colsS s (l.take i)).e, VS s.vars, c, VS (colsS s (l.take i)).vars]⟩) (fun i => i ≤ l.length) (fun i => l.length - i) (by kernel_rfl) ⟨0, Nat.zero_le _, (weak_nil 4 2 48 (by simp) (by decide)).trans (weak_eq (by simp [colsS, Rs.itemL]) (by simp [SS, VS, colsS, Rs.itemL, encRows]))⟩ (fun i hi => ?_)
  obtain ⟨ko, kk, kl⟩ := Rs.itemL_keeps (l := l.take i) (s := { s with vars := [] })
  have ko : (colsS s (l.take i)).old = s.old := ko
  have kk : (colsS s (l.take i)).kind = s.kind := kk
  have kl : (colsS s (l.take i)).vars.length = i := kl.trans (by simp; omega)
  by_cases hlt : i < l.length
  · have i1 : I64 ((i : Int) + 1) := by unfold I64; omega
    have hx := hg _ (ix_mem hlt)
    have ht : colsS s (l.take (i + 1)) = (colsS s (l.take i)).item (ix l i) := Rs.itemL_take (b := { s with vars := [] }) hlt
    generalize colsS s (l.take i) = b at *
    generalize hp : ix l i = x at *
    have hso := len24 hs.1
    have hbl : b.vars.length ≤ maxLen := len24 (by omega)
    rw [Rs.item_eq, ko, kk] at ht
    obtain ⟨e1, he1⟩ : ∃ e1, addE b.e (checkX s.old x.e true) = e1 := ⟨_, rfl⟩
    rw [he1] at ht
    have hap : ∀ k : Int, encRows b.vars ++ [[AV.str x.as_, AV.int .i64 k]] = encRows (b.vars ++ [⟨x.as_, k⟩]) := fun k => by rw [encRows_append]; rfl
    simp [SS, VS, hlt, rowAt_enc hlt, hp]
    refine AW_regionF (sigCCoR m) (mixCCoR m) [.pure, .pure, .pure, .pure, .pure, .read, .pure, .pure, .pure, .read, .eff] [[],[],[],[2,1],[1,2,3],[3,2,1,4],[],[6],[6,7],[7,6,8],[8,6,7,9,4,1,2,3,5,0]] (by kernel_rfl) (by kernel_rfl) (by kernel_rfl) (by kernel_rfl) ?_
    by_cases h6 : kindF b.vars x.as_ = 0
    · rw [if_pos h6] at ht
      rcases em2 (x.e.op = 2) with h7 | h7
      · rw [if_pos (of_eq_true h7)] at ht
        by_cases h8 : kindF s.old x.e.name = 0
        · rw [if_pos h8] at ht
          simp [SS, VS, hlt, rowAt_enc hlt, hp, gCheckR_o12, hs.1, hx, he1, sKind, hbl, h6, h7]
          refine AW_regionF (sigCCoR m) (mixCCoR m) [.pure, .pure, .pure, .read, .pure, .pure, .pure, .pure, .pure, .read, .read, .pure] [[],[0],[0,1],[1,0,2],[],[],[5,4],[4,5,6],[6,5,4,7],[7,4,5,6,8],[8,6,5,4,7,9,2,0,1,3],[3,1,0,2,9,7,4,5,6,8,10]] (by kernel_rfl) (by kernel_rfl) (by kernel_rfl) (by kernel_rfl) ?_
          simp [SS, VS, hlt, rowAt_enc hlt, hp, sKind, hbl, hso, h7, h8, i1]
          refine ⟨by omega, i + 1, by omega, by omega, weak_eq (by simp [ht]) (by simp [SS, VS, ht, hap])⟩
        · rw [if_neg h8] at ht
          simp [SS, VS, hlt, rowAt_enc hlt, hp, gCheckR_o12, hs.1, hx, he1, sKind, hbl, h6, h7]
          refine AW_regionF (sigCCoR m) (mixCCoR m) [.pure, .pure, .pure, .read, .pure, .pure, .pure, .pure, .pure, .read, .read, .pure] [[],[0],[0,1],[1,0,2],[],[],[5,4],[4,5,6],[6,5,4,7],[7,4,5,6,8],[8,6,5,4,7,9,2,0,1,3],[3,1,0,2,9,7,4,5,6,8,10]] (by kernel_rfl) (by kernel_rfl) (by kernel_rfl) (by kernel_rfl) ?_
          simp [SS, VS, hlt, rowAt_enc hlt, hp, sKind, hbl, hso, h7, h8, i1]
          refine ⟨by omega, i + 1, by omega, by omega, weak_eq (by simp [ht]) (by simp [SS, VS, ht, hap])⟩
      · rw [if_neg (of_eq_false h7), if_neg (by decide)] at ht
        simp [SS, VS, hlt, rowAt_enc hlt, hp, gCheckR_o12, hs.1, hx, he1, sKind, hbl, h6, h7, gFailR_12, i1]
        refine ⟨by omega, i + 1, by omega, by omega, weak_eq (by simp [ht]) (by simp [SS, VS, ht, hap])⟩
    · rw [if_neg h6] at ht
      rcases em2 (x.e.op = 2) with h7 | h7
      · rw [if_pos (of_eq_true h7)] at ht
        by_cases h8 : kindF s.old x.e.name = 0
        · rw [if_pos h8] at ht
          simp [SS, VS, hlt, rowAt_enc hlt, hp, gCheckR_o12, hs.1, hx, he1, sKind, hbl, h6, h7, gFailR_12]
          refine AW_regionF (sigCCoR m) (mixCCoR m) [.pure, .pure, .pure, .read, .pure, .pure, .pure, .pure, .pure, .read, .read, .pure] [[],[0],[0,1],[1,0,2],[],[],[5,4],[4,5,6],[6,5,4,7],[7,4,5,6,8],[8,6,5,4,7,9,2,0,1,3],[3,1,0,2,9,7,4,5,6,8,10]] (by kernel_rfl) (by kernel_rfl) (by kernel_rfl) (by kernel_rfl) ?_
          simp [SS, VS, hlt, rowAt_enc hlt, hp, sKind, hbl, hso, h7, h8, i1]
          refine ⟨by omega, i + 1, by omega, by omega, weak_eq (by simp [ht]) (by simp [SS, VS, ht, hap])⟩
        · rw [if_neg h8] at ht
          simp [SS, VS, hlt, rowAt_enc hlt, hp, gCheckR_o12, hs.1, hx, he1, sKind, hbl, h6, h7, gFailR_12]
          refine AW_regionF (sigCCoR m) (mixCCoR m) [.pure, .pure, .pure, .read, .pure, .pure, .pure, .pure, .pure, .read, .read, .pure] [[],[0],[0,1],[1,0,2],[],[],[5,4],[4,5,6],[6,5,4,7],[7,4,5,6,8],[8,6,5,4,7,9,2,0,1,3],[3,1,0,2,9,7,4,5,6,8,10]] (by kernel_rfl) (by kernel_rfl) (by kernel_rfl) (by kernel_rfl) ?_
          simp [SS, VS, hlt, rowAt_enc hlt, hp, sKind, hbl, hso, h7, h8, i1]
          refine ⟨by omega, i + 1, by omega, by omega, weak_eq (by simp [ht]) (by simp [SS, VS, ht, hap])⟩
      · rw [if_neg (of_eq_false h7), if_neg (by decide)] at ht
        simp [SS, VS, hlt, rowAt_enc hlt, hp, gCheckR_o12, hs.1, hx, he1, sKind, hbl, h6, h7, gFailR_12, i1]
        refine ⟨by omega, i + 1, by omega, by omega, weak_eq (by simp [ht]) (by simp [SS, VS, ht, hap])⟩
  · obtain rfl : i = l.length := by omega
    rw [List.take_length] at *
    generalize colsS s l = b at *
    simp [SS, VS, hlt]
    refine ⟨_, Weak.refl _, ?_⟩
    exact ⟨.inl rfl, ⟨True, trivial⟩, by simp [KSt_A, KSt_V, SS, VS, ko, kk]⟩
end
end Go.Proofs.YtgjljfbohpnfcaaGreat


namespace Go.Proofs.YtgjljfbohpnfcaaGreat
open Go.RowKit
set_option linter.unusedSimpArgs false
set_option linter.unusedVariables false
set_option maxRecDepth 100000
def LabC (c : Clause) : Prop := ∀ p ∈ c.paths, LabP p
theorem Rs.pathL_take {b : Rs} {l : List PathPat} {i : Nat} (h : i < l.length) : b.pathL (l.take (i + 1)) = (b.pathL (l.take i)).path (ix l i) := by
  unfold Rs.pathL
  rw [List.take_succ_eq_append_getElem h, List.foldl_append, ix_lt h]
  rfl
theorem Rs.chks_take {b : Rs} {l : List Expr} {i : Nat} (h : i < l.length) : b.chks (l.take (i + 1)) = (b.chks (l.take i)).fail (checkX (b.chks (l.take i)).vars (ix l i) false) := by
  unfold Rs.chks
  rw [List.take_succ_eq_append_getElem h, List.foldl_append, ix_lt h]
  rfl
theorem Rs.sorts_take {b : Rs} {l : List SortK} {i : Nat} (h : i < l.length) : b.sorts (l.take (i + 1)) = (b.sorts (l.take i)).fail (checkX (b.sorts (l.take i)).vars (ix l i).e false) := by
  unfold Rs.sorts
  rw [List.take_succ_eq_append_getElem h, List.foldl_append, ix_lt h]
  rfl
theorem Rs.setL_take {b : Rs} {l : List SetI} {i : Nat} (h : i < l.length) : b.setL (l.take (i + 1)) = (b.setL (l.take i)).set1 (ix l i) := by
  unfold Rs.setL
  rw [List.take_succ_eq_append_getElem h, List.foldl_append, ix_lt h]
  rfl
theorem Rs.nameL_take {b : Rs} {l : List ByteArray} {i : Nat} (h : i < l.length) : b.nameL (l.take (i + 1)) = (b.nameL (l.take i)).element (ix l i) false := by
  unfold Rs.nameL
  rw [List.take_succ_eq_append_getElem h, List.foldl_append, ix_lt h]
  rfl
theorem OKR.element {s : Rs} (h : OKR s) (n : ByteArray) (k : Bool) : OKR (s.element n k) := by
  unfold Rs.element
  dsimp only
  repeat' split
  all_goals first | exact h | exact (h.fail _).fail _ | exact h.fail _
theorem OKR.set1 {s : Rs} (h : OKR s) (x : SetI) : OKR (s.set1 x) := by
  unfold Rs.set1
  dsimp only
  split
  · exact (h.element _ _).fail _
  · exact h.element _ _
theorem OKR.pathL : ∀ {l : List PathPat} {s : Rs}, OKR s → OKR (s.pathL l)
  | [], _, h => h
  | a :: r, s, h => OKR.pathL (l := r) (s := s.path a) (h.path a)
theorem OKR.chks : ∀ {l : List Expr} {s : Rs}, OKR s → OKR (s.chks l)
  | [], _, h => h
  | a :: r, s, h => OKR.chks (l := r) (s := s.fail _) (h.fail _)
theorem OKR.sorts : ∀ {l : List SortK} {s : Rs}, OKR s → OKR (s.sorts l)
  | [], _, h => h
  | a :: r, s, h => OKR.sorts (l := r) (s := s.fail _) (h.fail _)
theorem OKR.setL : ∀ {l : List SetI} {s : Rs}, OKR s → OKR (s.setL l)
  | [], _, h => h
  | a :: r, s, h => OKR.setL (l := r) (s := s.set1 a) (h.set1 a)
theorem OKR.nameL : ∀ {l : List ByteArray} {s : Rs}, OKR s → OKR (s.nameL l)
  | [], _, h => h
  | a :: r, s, h => OKR.nameL (l := r) (s := s.element a false) (h.element a false)
theorem OKR.unwind {s : Rs} (h : OKR s) (c : Clause) : OKR (s.unwind c) := by
  unfold Rs.unwind
  dsimp only
  split
  · exact ((h.fail _).fail _).intro _ _
  · exact (h.fail _).intro _ _
theorem OKR.cols {s : Rs} (h : OKR s) {l : List Item} (hl : l.length ≤ 16) : OKR (colsS s l) := by
  obtain ⟨h1, _, h3⟩ := Rs.itemL_keeps (l := l) (s := { s with vars := [] })
  refine ⟨?_, ?_⟩
  · have : (colsS s l).old = s.old := h1
    rw [this]
    exact h.1
  · have : (colsS s l).vars.length = l.length := h3.trans (by simp)
    omega
theorem gElementR_gen {p l : Nat} {H : List Blk} {s : Rs} {n : ByteArray} {k : Bool} (hp : H[p]? = some (KSt.A s l)) (hl : H[l]? = some (KSt.V s)) (hpl : p ≠ l) : gElementR [.ptr p 1 4 0 0, .str n, .bool k] H = some (OKR s, .tup [], (H.set p (KSt.A (s.element n k) l)).set l (KSt.V (s.element n k))) := by
  have h := gM2_eq KSt (f := fElementR) (p := p) (l := l) (rest := [.str n, .bool k]) (s := s) (H := H) hp hl rfl
  simp [AV.deepArg, AV.isDeep, hpl] at h
  exact h
theorem gIntroR_12 {o v : List Cnt} {k x : Int} {q : Blk} {Z : List Blk} {n : ByteArray} {e : Int} : gIntroR [.ptr 1 1 4 0 0, .str n, .int .i64 e] (q :: ⟨79, 4, [[.slice 2 false (encRows o), .own 2 v.length, .int .i64 k, .int .i64 x]], true, false⟩ :: ⟨48, 2, encRows v, true, true⟩ :: Z) = some (OKR ⟨o, v, k, x⟩, .tup [], q :: KSt.A (Rs.intro ⟨o, v, k, x⟩ n e) 2 :: KSt.V (Rs.intro ⟨o, v, k, x⟩ n e) :: Z) := by
  have h := gM2_eq KSt (f := fIntroR) (p := 1) (l := 2) (rest := [.str n, .int .i64 e]) (s := ⟨o, v, k, x⟩) (H := q :: KSt.A ⟨o, v, k, x⟩ 2 :: KSt.V ⟨o, v, k, x⟩ :: Z) rfl rfl rfl
  simp [AV.deepArg, AV.isDeep] at h
  exact h
theorem gPathR_12 {o v : List Cnt} {k x : Int} {q : Blk} {Z : List Blk} {y : PathPat} : gPathR [.ptr 1 1 4 0 0, .agg [.str y.var, .slice 3 false (encRows y.nodes), .slice 7 false (encRows y.edges)]] (q :: ⟨79, 4, [[.slice 2 false (encRows o), .own 2 v.length, .int .i64 k, .int .i64 x]], true, false⟩ :: ⟨48, 2, encRows v, true, true⟩ :: Z) = some (OKR ⟨o, v, k, x⟩ ∧ GoodP y ∧ LabP y, .tup [], q :: KSt.A (Rs.path ⟨o, v, k, x⟩ y) 2 :: KSt.V (Rs.path ⟨o, v, k, x⟩ y) :: Z) := by
  have h := gM2_eq KSt (f := fPathR) (p := 1) (l := 2) (rest := [Enc.enc y]) (s := ⟨o, v, k, x⟩) (H := q :: KSt.A ⟨o, v, k, x⟩ 2 :: KSt.V ⟨o, v, k, x⟩ :: Z) rfl rfl rfl
  have e1 : (Enc.dec (Enc.enc y) : PathPat) = y := Enc.dec_enc y
  have e3 : reown 1 (Enc.enc y) = Enc.enc y := rfl
  have e4 : (Enc.enc y).deepArg = true := rfl
  simp only [e1, e3, List.mem_singleton, forall_eq, e4, true_or, and_true, true_and] at h
  simp at h
  exact h
theorem gCheckR_v12 {o v : List Cnt} {k x : Int} {q : Blk} {Z : List Blk} {e : Expr} {w : Bool} : gCheckR [.ptr 1 1 4 0 0, .agg [.int .i64 e.op, .int .i64 e.v.kind, .int .i64 e.v.n, .int .i64 e.v.d, .str e.v.s, .slice 5 false (encRows e.v.l), .str e.name, .bool e.dist, .slice 9 false (encRows e.kids)], .own 2 v.length, .bool w] (q :: ⟨79, 4, [[.slice 2 false (encRows o), .own 2 v.length, .int .i64 k, .int .i64 x]], true, false⟩ :: ⟨48, 2, encRows v, true, true⟩ :: Z) = some (v.length ≤ 24 ∧ GoodE e, .tup [], q :: KSt.A (Rs.fail ⟨o, v, k, x⟩ (checkX v e w)) 2 :: KSt.V (Rs.fail ⟨o, v, k, x⟩ (checkX v e w)) :: Z) := by
  have h := gCheckR_gen (p := 1) (l := 2) (s := ⟨o, v, k, x⟩) (e := e) (w := w) (H := q :: KSt.A ⟨o, v, k, x⟩ 2 :: KSt.V ⟨o, v, k, x⟩ :: Z) rfl rfl (by decide)
  rw [enc_expr] at h
  exact h
theorem gElementR_12 {o v : List Cnt} {k x : Int} {q : Blk} {Z : List Blk} {n : ByteArray} {e : Bool} : gElementR [.ptr 1 1 4 0 0, .str n, .bool e] (q :: ⟨79, 4, [[.slice 2 false (encRows o), .own 2 v.length, .int .i64 k, .int .i64 x]], true, false⟩ :: ⟨48, 2, encRows v, true, true⟩ :: Z) = some (OKR ⟨o, v, k, x⟩, .tup [], q :: KSt.A (Rs.element ⟨o, v, k, x⟩ n e) 2 :: KSt.V (Rs.element ⟨o, v, k, x⟩ n e) :: Z) :=
  gElementR_gen (p := 1) (l := 2) (s := ⟨o, v, k, x⟩) (H := q :: KSt.A ⟨o, v, k, x⟩ 2 :: KSt.V ⟨o, v, k, x⟩ :: Z) rfl rfl (by decide)
theorem gCheckR_v14 {o v : List Cnt} {k x : Int} {q v0 c0 : Blk} {Z : List Blk} {e : Expr} {w : Bool} : gCheckR [.ptr 1 1 4 0 0, .agg [.int .i64 e.op, .int .i64 e.v.kind, .int .i64 e.v.n, .int .i64 e.v.d, .str e.v.s, .slice 5 false (encRows e.v.l), .str e.name, .bool e.dist, .slice 9 false (encRows e.kids)], .own 4 v.length, .bool w] (q :: ⟨79, 4, [[.slice 2 false (encRows o), .own 4 v.length, .int .i64 k, .int .i64 x]], true, false⟩ :: v0 :: c0 :: ⟨48, 2, encRows v, true, true⟩ :: Z) = some (v.length ≤ 24 ∧ GoodE e, .tup [], q :: KSt.A (Rs.fail ⟨o, v, k, x⟩ (checkX v e w)) 4 :: v0 :: c0 :: KSt.V (Rs.fail ⟨o, v, k, x⟩ (checkX v e w)) :: Z) := by
  have h := gCheckR_gen (p := 1) (l := 4) (s := ⟨o, v, k, x⟩) (e := e) (w := w) (H := q :: KSt.A ⟨o, v, k, x⟩ 4 :: v0 :: c0 :: KSt.V ⟨o, v, k, x⟩ :: Z) rfl rfl (by decide)
  rw [enc_expr] at h
  exact h
theorem gElementR_14 {o v : List Cnt} {k x : Int} {q v0 c0 : Blk} {Z : List Blk} {n : ByteArray} {e : Bool} : gElementR [.ptr 1 1 4 0 0, .str n, .bool e] (q :: ⟨79, 4, [[.slice 2 false (encRows o), .own 4 v.length, .int .i64 k, .int .i64 x]], true, false⟩ :: v0 :: c0 :: ⟨48, 2, encRows v, true, true⟩ :: Z) = some (OKR ⟨o, v, k, x⟩, .tup [], q :: KSt.A (Rs.element ⟨o, v, k, x⟩ n e) 4 :: v0 :: c0 :: KSt.V (Rs.element ⟨o, v, k, x⟩ n e) :: Z) :=
  gElementR_gen (p := 1) (l := 4) (s := ⟨o, v, k, x⟩) (H := q :: KSt.A ⟨o, v, k, x⟩ 4 :: v0 :: c0 :: KSt.V ⟨o, v, k, x⟩ :: Z) rfl rfl (by decide)
def clauseH (q : Blk) (s : Rs) (c : Clause) : List Blk :=
  if c.kind = 3 ∨ c.kind = 4 then [q, KSt.A (s.clause c) 4, VS (s.pathL c.paths).vars, CBk c, KSt.V (s.clause c)] else [q, KSt.A (s.clause c) 2, KSt.V (s.clause c)]
def gClauseR : List AV → List Blk → Option (Prop × AV × List Blk) := fun args H => match args, H with
  | [.ptr 1 1 4 0 0, v], [q, a, b] => some ((q.deep = true ∧ a = KSt.A (KSt.un a b) 2 ∧ b = KSt.V (KSt.un a b)) ∧ OKR (KSt.un a b) ∧ v = Enc.enc (Enc.dec v : Clause) ∧ GoodC (Enc.dec v) ∧ LabC (Enc.dec v) ∧ ((Enc.dec v : Clause).kind = 3 ∨ (Enc.dec v : Clause).kind = 4 → (Enc.dec v : Clause).items.length ≤ 16),
      .tup [], clauseH q (KSt.un a b) (Enc.dec v))
  | _, _ => none
theorem gClauseR_inv {args : List AV} {H : List Blk} {ob : Prop} {r : AV} {H' : List Blk} (h : gClauseR args H = some (ob, r, H')) (hob : ob) :
    ∃ q s c, args = [.ptr 1 1 4 0 0, Enc.enc c] ∧ H = [q, KSt.A s 2, KSt.V s] ∧ q.deep = true ∧ OKR s ∧ GoodC c ∧ LabC c ∧ (c.kind = 3 ∨ c.kind = 4 → c.items.length ≤ 16) ∧ r = .tup [] ∧ H' = clauseH q s c := by
  unfold gClauseR at h
  split at h
  · rename_i v q a b
    simp only [Option.some.injEq, Prod.mk.injEq] at h
    obtain ⟨h1, h2, h3⟩ := h
    subst h1
    obtain ⟨⟨h4, h6, h7⟩, h8, h9, h10, h11, h12⟩ := hob
    exact ⟨q, KSt.un a b, Enc.dec v, by rw [← h9], by rw [← h6, ← h7], h4, h8, h10, h11, h12, h2.symm, h3.symm⟩
  · cases h
noncomputable def clBody : Code := match Tryz.f28.body with | some b => b | none => .skip
noncomputable def clA : Code := sq1 (sq2 clBody)
noncomputable def clU : Code := sq1 (sq2 (sq2 clBody))
noncomputable def clC : Code := sq1 (sq2 (sq2 (sq2 clBody)))
noncomputable def clW : Code := sq1 (sq2 (sq2 (sq2 (sq2 clBody))))
noncomputable def clS : Code := sq1 (sq2 (sq2 (sq2 (sq2 (sq2 clBody)))))
noncomputable def clN : Code := sq2 (sq2 (sq2 (sq2 (sq2 (sq2 clBody)))))
def hp2 (q : Blk) (c : Clause) (b : Rs) : List Blk := [q, SS b.old 2 b.vars.length b.kind b.e, VS b.vars, CBk c]
def hp4 (q : Blk) (c : Clause) (V0 : List Cnt) (b : Rs) : List Blk := [q, SS b.old 4 b.vars.length b.kind b.e, VS V0, CBk c, VS b.vars]
def clSt (H : List Blk) : ASt := ⟨[(0, .ptr 1 1 4 0 0), (3, .ptr 3 1 21 0 0)], H⟩
def ToSt (C : Ctx) (a : Code) (H H' : List Blk) : Prop := AW C 142 3 a (clSt H) (fun ex st' => ex = .normal ∧ Weak C 142 3 st' (clSt H'))
section
variable {m : Int}
noncomputable def CClR (m : Int) : Ctx := mkC Tryz.prog (G m) [(45, .gen gFailR), (46, .gen gIntroR), (43, .gen gPathR), (44, .gen gCheckR), (48, .gen gElementR), (47, .gen gColsR), (21, .pure sKind)]
@[simp] theorem CClR_P (m : Int) : (CClR m).P = Tryz.prog := rfl
@[simp] theorem CClR_G (m : Int) : (CClR m).G = (G m) := rfl
@[simp] theorem CClR_1 (m : Int) : (CClR m).S 45 = .gen gFailR := rfl
@[simp] theorem CClR_2 (m : Int) : (CClR m).S 46 = .gen gIntroR := rfl
@[simp] theorem CClR_3 (m : Int) : (CClR m).S 43 = .gen gPathR := rfl
@[simp] theorem CClR_4 (m : Int) : (CClR m).S 44 = .gen gCheckR := rfl
@[simp] theorem CClR_5 (m : Int) : (CClR m).S 48 = .gen gElementR := rfl
@[simp] theorem CClR_6 (m : Int) : (CClR m).S 47 = .gen gColsR := rfl
@[simp] theorem CClR_7 (m : Int) : (CClR m).S 21 = .pure sKind := rfl
theorem mixCClR (m : Int) : (CClR m).P.follows .mixedOrders = true := mixed
theorem sigCClR (m : Int) : SigOK (CClR m) := sigOK_cons (entryGen (failR) Tryz.func45 rfl (by decide)) (sigOK_cons (entryGen (introR) Tryz.func46 rfl (by decide)) (sigOK_cons (entryGen (pathRS) Tryz.func43 rfl (by decide)) (sigOK_cons (entryGen (checkRR) Tryz.func44 rfl (by decide)) (sigOK_cons (entryGen (elementR) Tryz.func48 rfl (by decide)) (sigOK_cons (entryGen (colsRS) Tryz.func47 rfl (by decide)) (sigOK_cons (entryPure (kindR) Tryz.func21 rfl (by decide)) (sigOK_nil _ _)))))))
set_option maxHeartbeats 16000000 in
theorem clA_ok {q : Blk} {c : Clause} {V0 : List Cnt} {b : Rs} (hq : q.deep = true) (hb : OKR b) (g1 : c.paths.length ≤ maxLen) (g2 : ∀ p ∈ c.paths, GoodP p) (hlab : LabC c) : ToSt (CClR m) clA (hp2 q c b) (hp2 q c (b.pathL c.paths)) := by
  unfold ToSt clSt
  refine avcH_sound (sigCClR m) (mixCClR m) (hd := [6, 7, 15, 19, 26]) _ (by kernel_rfl) ?_
  dsimp only [clA, clBody, sq1, sq2, Tryz.f28]
  have hlen : c.paths.length ≤ 9223372036854775807 := g1
  simp [SS, VS, CBk, hp2, hp4]
  refine loop_ruleH (C := (CClR m)) (sigCClR m) (mixCClR m) [6, 7, 15, 19, 26] (fun i : Nat => ⟨[(0, .ptr 1 1 4 0 0), (3, .ptr 3 1 21 0 0), (4, .int .i64 i)], hp2 q c (b.pathL (c.paths.take i))⟩) (fun i => i ≤ c.paths.length) (fun i => c.paths.length - i) (by kernel_rfl) ⟨0, Nat.zero_le _, weak_eq (by simp) (by simp [hp2, hp4, SS, VS, CBk, Rs.pathL])⟩ (fun i hi => ?_)
  have hbi : OKR (b.pathL (c.paths.take i)) := hb.pathL
  by_cases hlt : i < c.paths.length
  · have i1 : I64 ((i : Int) + 1) := by unfold I64; omega
    have hg := g2 _ (ix_mem hlt)
    have hlb := hlab _ (ix_mem hlt)
    obtain ⟨R, hR⟩ : ∃ R, b.pathL (c.paths.take (i + 1)) = R := ⟨_, rfl⟩
    have ht := hR
    rw [Rs.pathL_take hlt] at ht
    generalize b.pathL (c.paths.take i) = B at *
    simp [SS, VS, CBk, hp2, hlt, rowAt_enc hlt, gPathR_12, hbi, hg, hlb, ht, KSt_A, KSt_V, i1]
    exact ⟨i + 1, by omega, by omega, weak_keep 4 (by simp) (by simp) (by simp [AV.clean, AV.clean1]) (by simp [hq, hp2, hp4, SS, VS, CBk, AV.clean, AV.clean1]) (by simp [hp2, hp4, SS, VS, CBk, hR])⟩
  · obtain rfl : i = c.paths.length := by omega
    rw [List.take_length]
    simp [SS, VS, CBk, hp2, hp4, hlt]
    exact weak_eq (by simp) (by simp [hp2, hp4, SS, VS, CBk])
set_option maxHeartbeats 16000000 in
theorem clU_ok {q : Blk} {c : Clause} {V0 : List Cnt} {b : Rs} (hq : q.deep = true) (hb : OKR b) (gE : GoodE c.e) : ToSt (CClR m) clU (hp2 q c b) (hp2 q c (if c.kind = 2 then b.unwind c else b)) := by
  unfold ToSt clSt
  refine avcH_sound (sigCClR m) (mixCClR m) (hd := [6, 7, 15, 19, 26]) _ (by kernel_rfl) ?_
  dsimp only [clU, clBody, sq1, sq2, Tryz.f28]
  by_cases hk2 : c.kind = 2
  · have f2 : (c.kind = 2) = True := eq_true hk2
    rw [if_pos hk2]
    simp [SS, VS, CBk, hp2, f2]
    refine AW_regionF (sigCClR m) (mixCClR m) [.pure, .pure, .read, .pure, .pure, .pure, .read, .eff] [[],[],[1],[],[3],[3,4],[4,3,5],[5,3,4,6,1,2,0]] (by kernel_rfl) (by kernel_rfl) (by kernel_rfl) (by kernel_rfl) ?_
    obtain ⟨b1, hb1⟩ : ∃ b1, b.fail (checkX b.vars c.e false) = b1 := ⟨_, rfl⟩
    simp [SS, VS, CBk, gCheckR_v12, hb.2, gE, hb1, KSt_A, KSt_V]
    have hbo1 : OKR b1 := by rw [← hb1]; exact hb.fail _
    have hbl := len24 hbo1.2
    obtain ⟨b3, hb3⟩ : ∃ b3, b.unwind c = b3 := ⟨_, rfl⟩
    rw [hb3]
    unfold Rs.unwind at hb3
    dsimp only at hb3
    rw [hb1] at hb3
    refine AW_regionF (sigCClR m) (mixCClR m) [.pure, .pure, .pure, .read, .pure, .read, .read, .pure] [[],[0],[0,1],[1,0,2],[],[4],[4,5,2,0,1,3],[3,1,0,2,5,4,6]] (by kernel_rfl) (by kernel_rfl) (by kernel_rfl) (by kernel_rfl) ?_
    by_cases h1 : kindF b1.vars c.name = 0
    · rw [if_neg (by simp [h1])] at hb3
      simp [SS, VS, CBk, sKind, hbl, h1, gIntroR_12, hbo1, hb3, KSt_A, KSt_V, f2]
      exact weak_eq (by simp) (by simp [hp2, SS, VS, CBk])
    · rw [if_pos h1] at hb3
      have hb2 := hbo1.fail 7
      rw [Rs.fail_eq] at hb2 hb3
      simp [SS, VS, CBk, sKind, hbl, h1, gFailR_12, gIntroR_12, hb2, hb3, KSt_A, KSt_V, f2]
      exact weak_eq (by simp) (by simp [hp2, SS, VS, CBk])
  · have f2 : (c.kind = 2) = False := eq_false hk2
    rw [if_neg hk2]
    simp [SS, VS, CBk, hp2, f2]
    exact weak_eq (by simp) (by simp [hp2, SS, VS, CBk])
set_option maxHeartbeats 16000000 in
theorem clC_2 {q : Blk} {c : Clause} {V0 : List Cnt} {b : Rs} (hq : q.deep = true) (hb : OKR b) (hk34 : ¬ (c.kind = 3 ∨ c.kind = 4)) : ToSt (CClR m) clC (hp2 q c b) (hp2 q c b) := by
  unfold ToSt clSt
  refine avcH_sound (sigCClR m) (mixCClR m) (hd := [6, 7, 15, 19, 26]) _ (by kernel_rfl) ?_
  dsimp only [clC, clBody, sq1, sq2, Tryz.f28]
  have f3 : (c.kind = 3) = False := eq_false fun q => hk34 (.inl q)
  have f4 : (c.kind = 4) = False := eq_false fun q => hk34 (.inr q)
  simp [SS, VS, CBk, hp2, f3, f4]
  exact weak_eq (by simp) (by simp [hp2, SS, VS, CBk])
set_option maxHeartbeats 16000000 in
theorem clC_43 {q : Blk} {c : Clause} {V0 : List Cnt} {b : Rs} (hq : q.deep = true) (hb : OKR b) (hV : b.vars = V0) (hit : c.items.length ≤ 16) (g6 : ∀ i ∈ c.items, GoodE i.e) (g1 : c.order.length ≤ maxLen) (g8 : ∀ i ∈ c.order, GoodE i.e) (hk : c.kind = 3) : ToSt (CClR m) clC (hp2 q c b) (hp4 q c V0 ((colsS b c.items).sorts c.order)) := by
  unfold ToSt clSt
  refine avcH_sound (sigCClR m) (mixCClR m) (hd := [6, 7, 15, 19, 26]) _ (by kernel_rfl) ?_
  dsimp only [clC, clBody, sq1, sq2, Tryz.f28]
  have f3 : (c.kind = 3) = True := eq_true hk
  have f4 : (c.kind = 4) = False := eq_false (by omega)
  have hlen : c.order.length ≤ 9223372036854775807 := g1
  have hbc := hb.cols hit
  obtain ⟨b4, hb4⟩ : ∃ b4, colsS b c.items = b4 := ⟨_, rfl⟩
  rw [hb4] at hbc ⊢
  subst hV
  simp [SS, VS, CBk, hp2, f3, f4, gColsR_eq, hb, hq, hit, g6, hb4, KSt_A, KSt_V]
  refine ⟨g6, ?_⟩
  obtain ⟨V0, hV0⟩ : ∃ V0, b.vars = V0 := ⟨_, rfl⟩
  rw [hV0]
  refine loop_ruleH (C := (CClR m)) (sigCClR m) (mixCClR m) [6, 7, 15, 19, 26] (fun i : Nat => ⟨[(0, .ptr 1 1 4 0 0), (3, .ptr 3 1 21 0 0), (5, .int .i64 i)], hp4 q c V0 (b4.sorts (c.order.take i))⟩) (fun i => i ≤ c.order.length) (fun i => c.order.length - i) (by kernel_rfl) ⟨0, Nat.zero_le _, weak_eq (by simp) (by simp [hp2, hp4, SS, VS, CBk, Rs.sorts])⟩ (fun i hi => ?_)
  have hbi : OKR (b4.sorts (c.order.take i)) := hbc.sorts
  by_cases hlt : i < c.order.length
  · have i1 : I64 ((i : Int) + 1) := by unfold I64; omega
    have hg := g8 _ (ix_mem hlt)
    obtain ⟨R, hR⟩ : ∃ R, b4.sorts (c.order.take (i + 1)) = R := ⟨_, rfl⟩
    have ht := hR
    rw [Rs.sorts_take hlt] at ht
    generalize b4.sorts (c.order.take i) = B at *
    simp [SS, VS, CBk, hp4, hlt, rowAt_enc hlt]
    refine AW_regionF (sigCClR m) (mixCClR m) [.pure, .pure, .read, .pure, .pure, .pure, .read, .pure, .pure, .pure, .read, .eff] [[],[],[1],[],[3,1,2],[2,1,3,4],[4,3,1,2,5],[],[7],[7,8],[8,7,9],[9,7,8,10,5,2,1,3,4,6,0]] (by kernel_rfl) (by kernel_rfl) (by kernel_rfl) (by kernel_rfl) ?_
    simp [SS, VS, CBk, hp4, hlt, rowAt_enc hlt, gCheckR_v14, hbi.2, hg, ht, KSt_A, KSt_V, i1]
    exact ⟨i + 1, by omega, by omega, weak_keep 5 (by simp) (by simp) (by simp [AV.clean, AV.clean1]) (by simp [hq, hp2, hp4, SS, VS, CBk, AV.clean, AV.clean1]) (by simp [hp2, hp4, SS, VS, CBk, hR])⟩
  · obtain rfl : i = c.order.length := by omega
    rw [List.take_length]
    simp [SS, VS, CBk, hp2, hp4, hlt]
    exact weak_eq (by simp) (by simp [hp2, hp4, SS, VS, CBk])
set_option maxHeartbeats 16000000 in
theorem clC_44 {q : Blk} {c : Clause} {V0 : List Cnt} {b : Rs} (hq : q.deep = true) (hb : OKR b) (hV : b.vars = V0) (hit : c.items.length ≤ 16) (g6 : ∀ i ∈ c.items, GoodE i.e) (g1 : c.order.length ≤ maxLen) (g8 : ∀ i ∈ c.order, GoodE i.e) (hk : c.kind = 4) : ToSt (CClR m) clC (hp2 q c b) (hp4 q c V0 ((colsS b c.items).sorts c.order)) := by
  unfold ToSt clSt
  refine avcH_sound (sigCClR m) (mixCClR m) (hd := [6, 7, 15, 19, 26]) _ (by kernel_rfl) ?_
  dsimp only [clC, clBody, sq1, sq2, Tryz.f28]
  have f3 : (c.kind = 3) = False := eq_false (by omega)
  have f4 : (c.kind = 4) = True := eq_true hk
  have hlen : c.order.length ≤ 9223372036854775807 := g1
  have hbc := hb.cols hit
  obtain ⟨b4, hb4⟩ : ∃ b4, colsS b c.items = b4 := ⟨_, rfl⟩
  rw [hb4] at hbc ⊢
  subst hV
  simp [SS, VS, CBk, hp2, f3, f4, gColsR_eq, hb, hq, hit, g6, hb4, KSt_A, KSt_V]
  refine ⟨g6, ?_⟩
  obtain ⟨V0, hV0⟩ : ∃ V0, b.vars = V0 := ⟨_, rfl⟩
  rw [hV0]
  refine loop_ruleH (C := (CClR m)) (sigCClR m) (mixCClR m) [6, 7, 15, 19, 26] (fun i : Nat => ⟨[(0, .ptr 1 1 4 0 0), (3, .ptr 3 1 21 0 0), (5, .int .i64 i)], hp4 q c V0 (b4.sorts (c.order.take i))⟩) (fun i => i ≤ c.order.length) (fun i => c.order.length - i) (by kernel_rfl) ⟨0, Nat.zero_le _, weak_eq (by simp) (by simp [hp2, hp4, SS, VS, CBk, Rs.sorts])⟩ (fun i hi => ?_)
  have hbi : OKR (b4.sorts (c.order.take i)) := hbc.sorts
  by_cases hlt : i < c.order.length
  · have i1 : I64 ((i : Int) + 1) := by unfold I64; omega
    have hg := g8 _ (ix_mem hlt)
    obtain ⟨R, hR⟩ : ∃ R, b4.sorts (c.order.take (i + 1)) = R := ⟨_, rfl⟩
    have ht := hR
    rw [Rs.sorts_take hlt] at ht
    generalize b4.sorts (c.order.take i) = B at *
    simp [SS, VS, CBk, hp4, hlt, rowAt_enc hlt]
    refine AW_regionF (sigCClR m) (mixCClR m) [.pure, .pure, .read, .pure, .pure, .pure, .read, .pure, .pure, .pure, .read, .eff] [[],[],[1],[],[3,1,2],[2,1,3,4],[4,3,1,2,5],[],[7],[7,8],[8,7,9],[9,7,8,10,5,2,1,3,4,6,0]] (by kernel_rfl) (by kernel_rfl) (by kernel_rfl) (by kernel_rfl) ?_
    simp [SS, VS, CBk, hp4, hlt, rowAt_enc hlt, gCheckR_v14, hbi.2, hg, ht, KSt_A, KSt_V, i1]
    exact ⟨i + 1, by omega, by omega, weak_keep 5 (by simp) (by simp) (by simp [AV.clean, AV.clean1]) (by simp [hq, hp2, hp4, SS, VS, CBk, AV.clean, AV.clean1]) (by simp [hp2, hp4, SS, VS, CBk, hR])⟩
  · obtain rfl : i = c.order.length := by omega
    rw [List.take_length]
    simp [SS, VS, CBk, hp2, hp4, hlt]
    exact weak_eq (by simp) (by simp [hp2, hp4, SS, VS, CBk])
set_option maxHeartbeats 16000000 in
theorem clW_2 {q : Blk} {c : Clause} {V0 : List Cnt} {b : Rs} (hq : q.deep = true) (hb : OKR b) (g1 : c.wh.length ≤ maxLen) (g2 : ∀ e ∈ c.wh, GoodE e) : ToSt (CClR m) clW (hp2 q c (b)) (hp2 q c (b.chks c.wh)) := by
  unfold ToSt clSt
  refine avcH_sound (sigCClR m) (mixCClR m) (hd := [6, 7, 15, 19, 26]) _ (by kernel_rfl) ?_
  dsimp only [clW, clBody, sq1, sq2, Tryz.f28]
  have hlen : c.wh.length ≤ 9223372036854775807 := g1
  simp [SS, VS, CBk, hp2, hp4]
  refine loop_ruleH (C := (CClR m)) (sigCClR m) (mixCClR m) [6, 7, 15, 19, 26] (fun i : Nat => ⟨[(0, .ptr 1 1 4 0 0), (3, .ptr 3 1 21 0 0), (6, .int .i64 i)], hp2 q c (b.chks (c.wh.take i))⟩) (fun i => i ≤ c.wh.length) (fun i => c.wh.length - i) (by kernel_rfl) ⟨0, Nat.zero_le _, weak_eq (by simp) (by simp [hp2, hp4, SS, VS, CBk, Rs.chks])⟩ (fun i hi => ?_)
  have hbi : OKR (b.chks (c.wh.take i)) := hb.chks
  by_cases hlt : i < c.wh.length
  · have i1 : I64 ((i : Int) + 1) := by unfold I64; omega
    have hg := g2 _ (ix_mem hlt)
    obtain ⟨R, hR⟩ : ∃ R, b.chks (c.wh.take (i + 1)) = R := ⟨_, rfl⟩
    have ht := hR
    rw [Rs.chks_take hlt] at ht
    generalize b.chks (c.wh.take i) = B at *
    simp [SS, VS, CBk, hp2, hp4, hlt, rowAt_enc hlt]
    refine AW_regionF (sigCClR m) (mixCClR m) [.pure, .pure, .read, .pure, .pure, .read, .pure, .pure, .pure, .read, .eff] [[],[],[1],[],[3,1,2],[2,1,3,4],[],[6],[6,7],[7,6,8],[8,6,7,9,4,3,1,2,5,0]] (by kernel_rfl) (by kernel_rfl) (by kernel_rfl) (by kernel_rfl) ?_
    simp [SS, VS, CBk, hp2, hp4, hlt, rowAt_enc hlt, gCheckR_v12, hbi.2, hg, ht, KSt_A, KSt_V, i1]
    exact ⟨i + 1, by omega, by omega, weak_keep 4 (by simp) (by simp) (by simp [AV.clean, AV.clean1]) (by simp [hq, hp2, hp4, SS, VS, CBk, AV.clean, AV.clean1]) (by simp [hp2, hp4, SS, VS, CBk, hR])⟩
  · obtain rfl : i = c.wh.length := by omega
    rw [List.take_length]
    simp [SS, VS, CBk, hp2, hp4, hlt]
    exact weak_eq (by simp) (by simp [hp2, hp4, SS, VS, CBk])
set_option maxHeartbeats 16000000 in
theorem clS_2 {q : Blk} {c : Clause} {V0 : List Cnt} {b : Rs} (hq : q.deep = true) (hb : OKR b) (g1 : c.sets.length ≤ maxLen) (g2 : ∀ i ∈ c.sets, GoodE i.e) : ToSt (CClR m) clS (hp2 q c (b)) (hp2 q c (b.setL c.sets)) := by
  unfold ToSt clSt
  refine avcH_sound (sigCClR m) (mixCClR m) (hd := [6, 7, 15, 19, 26]) _ (by kernel_rfl) ?_
  dsimp only [clS, clBody, sq1, sq2, Tryz.f28]
  have hlen : c.sets.length ≤ 9223372036854775807 := g1
  simp [SS, VS, CBk, hp2, hp4]
  refine loop_ruleH (C := (CClR m)) (sigCClR m) (mixCClR m) [6, 7, 15, 19, 26] (fun i : Nat => ⟨[(0, .ptr 1 1 4 0 0), (3, .ptr 3 1 21 0 0), (7, .int .i64 i)], hp2 q c (b.setL (c.sets.take i))⟩) (fun i => i ≤ c.sets.length) (fun i => c.sets.length - i) (by kernel_rfl) ⟨0, Nat.zero_le _, weak_eq (by simp) (by simp [hp2, hp4, SS, VS, CBk, Rs.setL])⟩ (fun i hi => ?_)
  have hbi : OKR (b.setL (c.sets.take i)) := hb.setL
  by_cases hlt : i < c.sets.length
  · have i1 : I64 ((i : Int) + 1) := by unfold I64; omega
    have hg := g2 _ (ix_mem hlt)
    obtain ⟨R, hR⟩ : ∃ R, b.setL (c.sets.take (i + 1)) = R := ⟨_, rfl⟩
    have ht := hR
    rw [Rs.setL_take hlt] at ht
    generalize b.setL (c.sets.take i) = B at *
    generalize hx : ix c.sets i = x at *
    unfold Rs.set1 at ht
    dsimp only at ht
    rcases em2 (x.label = ⟨#[]⟩) with hlb | hlb
    · rw [if_pos (of_eq_true hlb)] at ht
      have hBe := hbi.element x.var false
      have hd : (!decide (x.label = ⟨#[]⟩)) = false := by simp [hlb]
      rw [hd] at ht
      generalize hBE : B.element x.var false = BE at *
      simp [SS, VS, CBk, hp2, hp4, hlt, rowAt_enc hlt, hx, gElementR_12, hbi, hlb, hBE, KSt_A, KSt_V]
      refine AW_regionF (sigCClR m) (mixCClR m) [.pure, .pure, .read, .pure, .pure, .pure, .read, .eff] [[],[],[1],[],[3],[3,4],[4,3,5],[5,3,4,6,1,2,0]] (by kernel_rfl) (by kernel_rfl) (by kernel_rfl) (by kernel_rfl) ?_
      simp [SS, VS, CBk, hp2, hp4, hlt, rowAt_enc hlt, hx, gCheckR_v12, hBe.2, hg, ht, KSt_A, KSt_V, i1]
      exact ⟨i + 1, by omega, by omega, weak_keep 4 (by simp) (by simp) (by simp [AV.clean, AV.clean1]) (by simp [hq, hp2, hp4, SS, VS, CBk, AV.clean, AV.clean1]) (by simp [hp2, hp4, SS, VS, CBk, hR])⟩
    · rw [if_neg (of_eq_false hlb)] at ht
      have hd : (!decide (x.label = ⟨#[]⟩)) = true := by simp [hlb]
      rw [hd] at ht
      simp [SS, VS, CBk, hp2, hp4, hlt, rowAt_enc hlt, hx, gElementR_12, hbi, hlb, ht, KSt_A, KSt_V, i1]
      exact ⟨i + 1, by omega, by omega, weak_keep 4 (by simp) (by simp) (by simp [AV.clean, AV.clean1]) (by simp [hq, hp2, hp4, SS, VS, CBk, AV.clean, AV.clean1]) (by simp [hp2, hp4, SS, VS, CBk, hR])⟩
  · obtain rfl : i = c.sets.length := by omega
    rw [List.take_length]
    simp [SS, VS, CBk, hp2, hp4, hlt]
    exact weak_eq (by simp) (by simp [hp2, hp4, SS, VS, CBk])
set_option maxHeartbeats 16000000 in
theorem clN_2 {q : Blk} {c : Clause} {V0 : List Cnt} {b : Rs} (hq : q.deep = true) (hb : OKR b) (g1 : c.names.length ≤ maxLen) : ToSt (CClR m) clN (hp2 q c (b)) (hp2 q c (b.nameL c.names)) := by
  unfold ToSt clSt
  refine avcH_sound (sigCClR m) (mixCClR m) (hd := [6, 7, 15, 19, 26]) _ (by kernel_rfl) ?_
  dsimp only [clN, clBody, sq1, sq2, Tryz.f28]
  have hlen : c.names.length ≤ 9223372036854775807 := g1
  simp [SS, VS, CBk, hp2, hp4]
  refine loop_ruleH (C := (CClR m)) (sigCClR m) (mixCClR m) [6, 7, 15, 19, 26] (fun i : Nat => ⟨[(0, .ptr 1 1 4 0 0), (3, .ptr 3 1 21 0 0), (9, .int .i64 i)], hp2 q c (b.nameL (c.names.take i))⟩) (fun i => i ≤ c.names.length) (fun i => c.names.length - i) (by kernel_rfl) ⟨0, Nat.zero_le _, weak_eq (by simp) (by simp [hp2, hp4, SS, VS, CBk, Rs.nameL])⟩ (fun i hi => ?_)
  have hbi : OKR (b.nameL (c.names.take i)) := hb.nameL
  by_cases hlt : i < c.names.length
  · have i1 : I64 ((i : Int) + 1) := by unfold I64; omega
    obtain ⟨R, hR⟩ : ∃ R, b.nameL (c.names.take (i + 1)) = R := ⟨_, rfl⟩
    have ht := hR
    rw [Rs.nameL_take hlt] at ht
    generalize b.nameL (c.names.take i) = B at *
    simp [SS, VS, CBk, hp2, hp4, hlt, rowAt_enc hlt, gElementR_12, hbi, ht, KSt_A, KSt_V, i1]
    exact ⟨i + 1, by omega, by omega, weak_keep 4 (by simp) (by simp) (by simp [AV.clean, AV.clean1]) (by simp [hq, hp2, hp4, SS, VS, CBk, AV.clean, AV.clean1]) (by simp [hp2, hp4, SS, VS, CBk, hR])⟩
  · obtain rfl : i = c.names.length := by omega
    rw [List.take_length]
    simp [SS, VS, CBk, hp2, hp4, hlt]
    exact weak_eq (by simp) (by simp [hp2, hp4, SS, VS, CBk])
set_option maxHeartbeats 16000000 in
theorem clW_4 {q : Blk} {c : Clause} {V0 : List Cnt} {b : Rs} (hq : q.deep = true) (hb : OKR b) (g1 : c.wh.length ≤ maxLen) (g2 : ∀ e ∈ c.wh, GoodE e) : ToSt (CClR m) clW (hp4 q c V0 (b)) (hp4 q c V0 (b.chks c.wh)) := by
  unfold ToSt clSt
  refine avcH_sound (sigCClR m) (mixCClR m) (hd := [6, 7, 15, 19, 26]) _ (by kernel_rfl) ?_
  dsimp only [clW, clBody, sq1, sq2, Tryz.f28]
  have hlen : c.wh.length ≤ 9223372036854775807 := g1
  simp [SS, VS, CBk, hp2, hp4]
  refine loop_ruleH (C := (CClR m)) (sigCClR m) (mixCClR m) [6, 7, 15, 19, 26] (fun i : Nat => ⟨[(0, .ptr 1 1 4 0 0), (3, .ptr 3 1 21 0 0), (6, .int .i64 i)], hp4 q c V0 (b.chks (c.wh.take i))⟩) (fun i => i ≤ c.wh.length) (fun i => c.wh.length - i) (by kernel_rfl) ⟨0, Nat.zero_le _, weak_eq (by simp) (by simp [hp2, hp4, SS, VS, CBk, Rs.chks])⟩ (fun i hi => ?_)
  have hbi : OKR (b.chks (c.wh.take i)) := hb.chks
  by_cases hlt : i < c.wh.length
  · have i1 : I64 ((i : Int) + 1) := by unfold I64; omega
    have hg := g2 _ (ix_mem hlt)
    obtain ⟨R, hR⟩ : ∃ R, b.chks (c.wh.take (i + 1)) = R := ⟨_, rfl⟩
    have ht := hR
    rw [Rs.chks_take hlt] at ht
    generalize b.chks (c.wh.take i) = B at *
    simp [SS, VS, CBk, hp2, hp4, hlt, rowAt_enc hlt]
    refine AW_regionF (sigCClR m) (mixCClR m) [.pure, .pure, .read, .pure, .pure, .read, .pure, .pure, .pure, .read, .eff] [[],[],[1],[],[3,1,2],[2,1,3,4],[],[6],[6,7],[7,6,8],[8,6,7,9,4,3,1,2,5,0]] (by kernel_rfl) (by kernel_rfl) (by kernel_rfl) (by kernel_rfl) ?_
    simp [SS, VS, CBk, hp2, hp4, hlt, rowAt_enc hlt, gCheckR_v14, hbi.2, hg, ht, KSt_A, KSt_V, i1]
    exact ⟨i + 1, by omega, by omega, weak_keep 5 (by simp) (by simp) (by simp [AV.clean, AV.clean1]) (by simp [hq, hp2, hp4, SS, VS, CBk, AV.clean, AV.clean1]) (by simp [hp2, hp4, SS, VS, CBk, hR])⟩
  · obtain rfl : i = c.wh.length := by omega
    rw [List.take_length]
    simp [SS, VS, CBk, hp2, hp4, hlt]
    exact weak_eq (by simp) (by simp [hp2, hp4, SS, VS, CBk])
set_option maxHeartbeats 16000000 in
theorem clS_4 {q : Blk} {c : Clause} {V0 : List Cnt} {b : Rs} (hq : q.deep = true) (hb : OKR b) (g1 : c.sets.length ≤ maxLen) (g2 : ∀ i ∈ c.sets, GoodE i.e) : ToSt (CClR m) clS (hp4 q c V0 (b)) (hp4 q c V0 (b.setL c.sets)) := by
  unfold ToSt clSt
  refine avcH_sound (sigCClR m) (mixCClR m) (hd := [6, 7, 15, 19, 26]) _ (by kernel_rfl) ?_
  dsimp only [clS, clBody, sq1, sq2, Tryz.f28]
  have hlen : c.sets.length ≤ 9223372036854775807 := g1
  simp [SS, VS, CBk, hp2, hp4]
  refine loop_ruleH (C := (CClR m)) (sigCClR m) (mixCClR m) [6, 7, 15, 19, 26] (fun i : Nat => ⟨[(0, .ptr 1 1 4 0 0), (3, .ptr 3 1 21 0 0), (7, .int .i64 i)], hp4 q c V0 (b.setL (c.sets.take i))⟩) (fun i => i ≤ c.sets.length) (fun i => c.sets.length - i) (by kernel_rfl) ⟨0, Nat.zero_le _, weak_eq (by simp) (by simp [hp2, hp4, SS, VS, CBk, Rs.setL])⟩ (fun i hi => ?_)
  have hbi : OKR (b.setL (c.sets.take i)) := hb.setL
  by_cases hlt : i < c.sets.length
  · have i1 : I64 ((i : Int) + 1) := by unfold I64; omega
    have hg := g2 _ (ix_mem hlt)
    obtain ⟨R, hR⟩ : ∃ R, b.setL (c.sets.take (i + 1)) = R := ⟨_, rfl⟩
    have ht := hR
    rw [Rs.setL_take hlt] at ht
    generalize b.setL (c.sets.take i) = B at *
    generalize hx : ix c.sets i = x at *
    unfold Rs.set1 at ht
    dsimp only at ht
    rcases em2 (x.label = ⟨#[]⟩) with hlb | hlb
    · rw [if_pos (of_eq_true hlb)] at ht
      have hBe := hbi.element x.var false
      have hd : (!decide (x.label = ⟨#[]⟩)) = false := by simp [hlb]
      rw [hd] at ht
      generalize hBE : B.element x.var false = BE at *
      simp [SS, VS, CBk, hp2, hp4, hlt, rowAt_enc hlt, hx, gElementR_14, hbi, hlb, hBE, KSt_A, KSt_V]
      refine AW_regionF (sigCClR m) (mixCClR m) [.pure, .pure, .read, .pure, .pure, .pure, .read, .eff] [[],[],[1],[],[3],[3,4],[4,3,5],[5,3,4,6,1,2,0]] (by kernel_rfl) (by kernel_rfl) (by kernel_rfl) (by kernel_rfl) ?_
      simp [SS, VS, CBk, hp2, hp4, hlt, rowAt_enc hlt, hx, gCheckR_v14, hBe.2, hg, ht, KSt_A, KSt_V, i1]
      exact ⟨i + 1, by omega, by omega, weak_keep 5 (by simp) (by simp) (by simp [AV.clean, AV.clean1]) (by simp [hq, hp2, hp4, SS, VS, CBk, AV.clean, AV.clean1]) (by simp [hp2, hp4, SS, VS, CBk, hR])⟩
    · rw [if_neg (of_eq_false hlb)] at ht
      have hd : (!decide (x.label = ⟨#[]⟩)) = true := by simp [hlb]
      rw [hd] at ht
      simp [SS, VS, CBk, hp2, hp4, hlt, rowAt_enc hlt, hx, gElementR_14, hbi, hlb, ht, KSt_A, KSt_V, i1]
      exact ⟨i + 1, by omega, by omega, weak_keep 5 (by simp) (by simp) (by simp [AV.clean, AV.clean1]) (by simp [hq, hp2, hp4, SS, VS, CBk, AV.clean, AV.clean1]) (by simp [hp2, hp4, SS, VS, CBk, hR])⟩
  · obtain rfl : i = c.sets.length := by omega
    rw [List.take_length]
    simp [SS, VS, CBk, hp2, hp4, hlt]
    exact weak_eq (by simp) (by simp [hp2, hp4, SS, VS, CBk])
set_option maxHeartbeats 16000000 in
theorem clN_4 {q : Blk} {c : Clause} {V0 : List Cnt} {b : Rs} (hq : q.deep = true) (hb : OKR b) (g1 : c.names.length ≤ maxLen) : ToSt (CClR m) clN (hp4 q c V0 (b)) (hp4 q c V0 (b.nameL c.names)) := by
  unfold ToSt clSt
  refine avcH_sound (sigCClR m) (mixCClR m) (hd := [6, 7, 15, 19, 26]) _ (by kernel_rfl) ?_
  dsimp only [clN, clBody, sq1, sq2, Tryz.f28]
  have hlen : c.names.length ≤ 9223372036854775807 := g1
  simp [SS, VS, CBk, hp2, hp4]
  refine loop_ruleH (C := (CClR m)) (sigCClR m) (mixCClR m) [6, 7, 15, 19, 26] (fun i : Nat => ⟨[(0, .ptr 1 1 4 0 0), (3, .ptr 3 1 21 0 0), (9, .int .i64 i)], hp4 q c V0 (b.nameL (c.names.take i))⟩) (fun i => i ≤ c.names.length) (fun i => c.names.length - i) (by kernel_rfl) ⟨0, Nat.zero_le _, weak_eq (by simp) (by simp [hp2, hp4, SS, VS, CBk, Rs.nameL])⟩ (fun i hi => ?_)
  have hbi : OKR (b.nameL (c.names.take i)) := hb.nameL
  by_cases hlt : i < c.names.length
  · have i1 : I64 ((i : Int) + 1) := by unfold I64; omega
    obtain ⟨R, hR⟩ : ∃ R, b.nameL (c.names.take (i + 1)) = R := ⟨_, rfl⟩
    have ht := hR
    rw [Rs.nameL_take hlt] at ht
    generalize b.nameL (c.names.take i) = B at *
    simp [SS, VS, CBk, hp2, hp4, hlt, rowAt_enc hlt, gElementR_14, hbi, ht, KSt_A, KSt_V, i1]
    exact ⟨i + 1, by omega, by omega, weak_keep 5 (by simp) (by simp) (by simp [AV.clean, AV.clean1]) (by simp [hq, hp2, hp4, SS, VS, CBk, AV.clean, AV.clean1]) (by simp [hp2, hp4, SS, VS, CBk, hR])⟩
  · obtain rfl : i = c.names.length := by omega
    rw [List.take_length]
    simp [SS, VS, CBk, hp2, hp4, hlt]
    exact weak_eq (by simp) (by simp [hp2, hp4, SS, VS, CBk])
set_option maxHeartbeats 16000000 in
theorem clauseRS : GenOK Tryz.prog (G m) 28 gClauseR := by
  refine gen_ofAW (C := CClR m) Tryz.func28 rfl rfl rfl (fun avs H ob r H' h hob => ?_)
  obtain ⟨q, s, c, rfl, rfl, hq, hs, hgc, hlab, hit, rfl, rfl⟩ := gClauseR_inv h hob
  clear h hob
  refine ⟨(by show 2 ≤ _; decide), ?_⟩
  obtain ⟨⟨g1, g2⟩, ⟨g3, g4⟩, gE, ⟨g5, g6⟩, ⟨g7, g8⟩, ⟨g9, g10⟩, g11⟩ := hgc
  show AW (CClR m) 142 3 (.seq (sq1 clBody) (.seq clA (.seq clU (.seq clC (.seq clW (.seq clS clN)))))) ⟨argsρ 0 [.ptr 1 1 4 0 0, Enc.enc c], [q, SS s.old 2 s.vars.length s.kind s.e, VS s.vars]⟩ (fun ex st' => (ex = .normal ∨ ex = .ret) ∧ ∃ ob', aresults (CClR m) st' [] = some (ob', .tup []) ∧ ob' ∧ st'.H = clauseH q s c)
  refine AW_cut (clSt (hp2 q c s)) (avcH_sound (sigCClR m) (mixCClR m) (hd := [6, 7, 15, 19, 26]) _ (by kernel_rfl) ?_) ?_
  · dsimp only [clBody, sq1, Tryz.f28]
    simp [argsρ, SS, VS, CBk]
    exact weak_eq (by simp) (by simp [hp2, SS, VS, CBk])
  have hA := hs.pathL (l := c.paths)
  refine AW_cut _ (clA_ok (V0 := []) hq hs g1 g2 hlab) ?_
  have hR : s.clause c = (((if c.kind = 3 ∨ c.kind = 4 then (colsS (if c.kind = 2 then (s.pathL c.paths).unwind c else s.pathL c.paths) c.items).sorts c.order else if c.kind = 2 then (s.pathL c.paths).unwind c else s.pathL c.paths).chks c.wh).setL c.sets).nameL c.names := rfl
  unfold clauseH
  rw [hR]
  generalize s.pathL c.paths = b at *
  refine AW_cut _ (clU_ok (V0 := []) hq hA gE) ?_
  by_cases h34 : c.kind = 3 ∨ c.kind = 4
  · have h2 : ¬ c.kind = 2 := by omega
    rw [if_pos h34, if_pos h34, if_neg h2]
    have hit := hit h34
    have hC := (hA.cols hit).sorts (l := c.order)
    refine AW_cut (clSt (hp4 q c b.vars ((colsS b c.items).sorts c.order))) ?_ ?_
    · rcases h34 with hk | hk
      · exact clC_43 hq hA rfl hit g6 g7 g8 hk
      · exact clC_44 hq hA rfl hit g6 g7 g8 hk
    refine AW_cut _ (clW_4 hq hC g3 g4) ?_
    refine AW_cut _ (clS_4 hq hC.chks g9 g10) ?_
    exact AW_fin _ (clN_4 hq hC.chks.setL g11) ⟨.inl rfl, True, rfl, trivial, rfl⟩
  · rw [if_neg h34, if_neg h34]
    have hU : OKR (if c.kind = 2 then b.unwind c else b) := by
      split
      · exact hA.unwind c
      · exact hA
    generalize (if c.kind = 2 then b.unwind c else b) = b2 at *
    refine AW_cut _ (clC_2 (V0 := []) hq hU h34) ?_
    refine AW_cut _ (clW_2 (V0 := []) hq hU g3 g4) ?_
    refine AW_cut _ (clS_2 (V0 := []) hq hU.chks g9 g10) ?_
    refine AW_end ?_
    refine AW_fin _ (clN_2 (V0 := []) hq hU.chks.setL g11) ⟨⟨[], _⟩, weak_keep 3 (by simp) (by simp) (by simp) (by simp [hp2, clSt, hq, SS, VS, CBk, AV.clean, AV.clean1]) rfl, .inl rfl, True, rfl, trivial, rfl⟩
end
end Go.Proofs.YtgjljfbohpnfcaaGreat


namespace Go.Proofs.YtgjljfbohpnfcaaGreat
open Go.RowKit
set_option linter.unusedSimpArgs false
set_option linter.unusedVariables false
set_option maxRecDepth 100000
section
variable {m : Int}
noncomputable def CPr (m : Int) : Ctx := mkC Tryz.prog (G m) [(94, .pure sPathS), (95, .pure sChk), (96, .pure sWd), (97, .pure sSetE), (98, .pure sWs)]
@[simp] theorem CPr_P (m : Int) : (CPr m).P = Tryz.prog := rfl
@[simp] theorem CPr_1 (m : Int) : (CPr m).S 94 = .pure sPathS := rfl
@[simp] theorem CPr_2 (m : Int) : (CPr m).S 95 = .pure sChk := rfl
@[simp] theorem CPr_3 (m : Int) : (CPr m).S 96 = .pure sWd := rfl
@[simp] theorem CPr_4 (m : Int) : (CPr m).S 97 = .pure sSetE := rfl
@[simp] theorem CPr_5 (m : Int) : (CPr m).S 98 = .pure sWs := rfl
theorem mixCPr (m : Int) : (CPr m).P.follows .mixedOrders = true := mixed
theorem sigCPr (m : Int) : SigOK (CPr m) := sigOK_cons (entryPure checkPathR Tryz.func94 rfl (by decide)) (sigOK_cons (entryPure checkR Tryz.func95 rfl (by decide)) (sigOK_cons (entryPure wordR Tryz.func96 rfl (by decide)) (sigOK_cons (entryPure setR Tryz.func97 rfl (by decide)) (sigOK_cons (entryPure wsR Tryz.func98 rfl (by decide)) (sigOK_nil _ _)))))
def sParts : List AV → Option (Prop × AV) := spec1 (fun (c : Clause) => WfCS c) (fun c => .int .i64 (partsC c))
set_option maxHeartbeats 16000000 in
theorem partsR : PureOK Tryz.prog (G m) 65 sParts := by
  refine pure1 (C := CPr m) (sigCPr m) (mixCPr m) Tryz.func65 rfl rfl rfl (by kernel_rfl) (by decide) (fun c ⟨⟨⟨l1, w1⟩, ⟨l2, w2⟩, w3, ⟨l4, w4⟩, ⟨l5, w5⟩, ⟨l6, w6⟩, l7⟩, wp⟩ => ?_)
  have l1' := maxLen_le l1
  have l2' := maxLen_le l2
  have l4' := maxLen_le l4
  have l5' := maxLen_le l5
  have l6' := maxLen_le l6
  have l7' := maxLen_le l7
  obtain ⟨R, hR⟩ : ∃ R, R = partsC c := ⟨_, rfl⟩
  rw [← hR]
  simp
  refine loop_rule (C := CPr m) (sigCPr m) (mixCPr m) (fun i : Nat => ⟨[(1, .ptr 0 1 21 0 0), (3, .int .i64 i)], [CB c]⟩) (fun i => i ≤ c.paths.length ∧ (c.paths.drop i).foldl (pathS c.kind) 0 = c.paths.foldl (pathS c.kind) 0) (fun i => c.paths.length - i) (by kernel_rfl) ⟨0, by simp, weak_slots (by simp)⟩ (fun i ⟨hi, hs⟩ => ?_)
  by_cases hlt : i < c.paths.length
  · have i1 : I64 ((i : Int) + 1) := by unfold I64; omega
    have w := wp _ (ix_mem hlt)
    rw [foldl_drop hlt] at hs
    by_cases h0 : pathE (ix c.paths i) (decide (c.kind = 5)) = 0
    · have e0 : pathS c.kind 0 (ix c.paths i) = 0 := by unfold pathS; rw [h0]; rfl
      rw [e0] at hs
      simp [CB, hlt, rowAt_enc hlt, sPathS, w, i1, h0]
      exact ⟨i + 1, ⟨by omega, hs⟩, by omega, weak_slots (by simp)⟩
    · have e0 : pathS c.kind 0 (ix c.paths i) = pathE (ix c.paths i) (decide (c.kind = 5)) := rfl
      rw [e0, keep_foldl (kPath c.kind) h0] at hs
      have hr := pc1 hs.symm h0
      rw [← hR] at hr
      simp [CB, hlt, rowAt_enc hlt, sPathS, w, h0, hr]
  rw [List.drop_eq_nil_of_le (by omega), List.foldl_nil] at hs
  have hA : c.wh.foldl exprS 0 = partsA c := by unfold partsA; rw [← hs]
  simp [CB, hlt]
  refine loop_rule (C := CPr m) (sigCPr m) (mixCPr m) (fun i : Nat => ⟨[(1, .ptr 0 1 21 0 0), (5, .int .i64 i)], [CB c]⟩) (fun i => i ≤ c.wh.length ∧ (c.wh.drop i).foldl exprS 0 = partsA c) (fun i => c.wh.length - i) (by kernel_rfl) ⟨0, ⟨by omega, hA⟩, weak_slots (by simp [CB])⟩ (fun i ⟨hi, hs⟩ => ?_)
  by_cases hlt : i < c.wh.length
  · have i1 : I64 ((i : Int) + 1) := by unfold I64; omega
    have w := w2 _ (ix_mem hlt)
    rw [foldl_drop hlt] at hs
    have e0 : exprS 0 (ix c.wh i) = checkE (ix c.wh i) := rfl
    rw [e0] at hs
    by_cases h0 : checkE (ix c.wh i) = 0
    · rw [h0] at hs
      simp [CB, hlt, rowAt_enc hlt, sChk, w, i1, h0]
      exact ⟨i + 1, ⟨by omega, hs⟩, by omega, weak_slots (by simp)⟩
    · rw [keep_foldl kExpr h0] at hs
      have hr := pc2 hs.symm h0
      rw [← hR] at hr
      simp [CB, hlt, rowAt_enc hlt, sChk, w, h0, hr]
  rw [List.drop_eq_nil_of_le (by omega), List.foldl_nil] at hs
  have hB : (c.kind = 2) = False ∨ ((c.kind = 2) = True ∧ ¬ checkE c.e = 0) ∨ ((c.kind = 2) = True ∧ checkE c.e = 0 ∧ wordB c.name = false) ∨ ((c.kind = 2) = True ∧ checkE c.e = 0 ∧ wordB c.name = true) := by
    rcases em2 (c.kind = 2) with h | h
    · by_cases h1 : checkE c.e = 0
      · cases h2 : wordB c.name
        · exact .inr (.inr (.inl ⟨h, h1, rfl⟩))
        · exact .inr (.inr (.inr ⟨h, h1, rfl⟩))
      · exact .inr (.inl ⟨h, h1⟩)
    · exact .inl h
  have pb : (c.kind = 2) = True → partsB c = addE (addE 0 (checkE c.e)) (needE c.name) := fun h => by unfold partsB; rw [if_pos (of_eq_true h), ← hs]
  rcases hB with hk | ⟨hk, h1⟩ | ⟨hk, h1, h2⟩ | ⟨hk, h1, h2⟩
  case' inr.inl =>
    have hr : R = checkE c.e := by rw [hR]; exact pc3 (by rw [pb hk, add_zero, keep_add h1]) h1
    simp [CB, hlt, sChk, w3, hk, h1, hr]
  case' inr.inr.inl =>
    have hr : R = 6 := by rw [hR]; exact pc3 (by rw [pb hk, add_zero, h1, add_zero]; unfold needE; rw [h2]; simp) (by decide)
    simp [CB, hlt, sChk, sWd, w3, hk, h1, h2, hr]
  case' inl =>
    have hz : partsB c = 0 := by unfold partsB; rw [if_neg (of_eq_false hk), ← hs]
    have h1 : True := trivial
    have h2 : True := trivial
  case' inr.inr.inr =>
    have hz : partsB c = 0 := by rw [pb hk, add_zero, h1, add_zero]; unfold needE; rw [h2]; simp
  all_goals
    simp [CB, hlt, sChk, sWd, w3, hk, h1, h2]
    refine loop_rule (C := CPr m) (sigCPr m) (mixCPr m) (fun i : Nat => ⟨[(1, .ptr 0 1 21 0 0), (8, .int .i64 i)], [CB c]⟩) (fun i => i ≤ c.items.length ∧ (c.items.drop i).foldl itemS 0 = c.items.foldl itemS (partsB c)) (fun i => c.items.length - i) (by kernel_rfl) ⟨0, ⟨by omega, by rw [hz]; rfl⟩, weak_slots (by simp [CB])⟩ (fun i ⟨hi, hs⟩ => ?_)
    by_cases hlt : i < c.items.length
    · have i1 : I64 ((i : Int) + 1) := by unfold I64; omega
      have w := w4 _ (ix_mem hlt)
      rw [foldl_drop hlt] at hs
      have e0 : itemS 0 (ix c.items i) = addE (checkE (ix c.items i).e) (needE (ix c.items i).as_) := rfl
      rw [e0] at hs
      by_cases h0 : checkE (ix c.items i).e = 0
      · rw [h0, add_zero] at hs
        cases hw : wordB (ix c.items i).as_
        · have hn : needE (ix c.items i).as_ = 6 := by unfold needE; rw [hw]; simp
          rw [hn, keep_foldl kItem (by decide)] at hs
          have hr := pc4 hs.symm (by decide)
          rw [← hR] at hr
          simp [CB, hlt, rowAt_enc hlt, sChk, sWd, w, h0, hw, hr]
        · have hn : needE (ix c.items i).as_ = 0 := by unfold needE; rw [hw]; simp
          rw [hn] at hs
          simp [CB, hlt, rowAt_enc hlt, sChk, sWd, w, i1, h0, hw]
          exact ⟨i + 1, ⟨by omega, hs⟩, by omega, weak_slots (by simp)⟩
      · rw [keep_add h0, keep_foldl kItem h0] at hs
        have hr := pc4 hs.symm h0
        rw [← hR] at hr
        simp [CB, hlt, rowAt_enc hlt, sChk, w, h0, hr]
    rw [List.drop_eq_nil_of_le (by omega), List.foldl_nil] at hs
    simp [CB, hlt]
    refine loop_rule (C := CPr m) (sigCPr m) (mixCPr m) (fun i : Nat => ⟨[(1, .ptr 0 1 21 0 0), (10, .int .i64 i)], [CB c]⟩) (fun i => i ≤ c.order.length ∧ (c.order.drop i).foldl sortS 0 = c.order.foldl sortS (c.items.foldl itemS (partsB c))) (fun i => c.order.length - i) (by kernel_rfl) ⟨0, ⟨by omega, by rw [← hs]; rfl⟩, weak_slots (by simp [CB])⟩ (fun i ⟨hi, hs⟩ => ?_)
    by_cases hlt : i < c.order.length
    · have i1 : I64 ((i : Int) + 1) := by unfold I64; omega
      have w := w5 _ (ix_mem hlt)
      rw [foldl_drop hlt] at hs
      have e0 : sortS 0 (ix c.order i) = checkE (ix c.order i).e := rfl
      rw [e0] at hs
      by_cases h0 : checkE (ix c.order i).e = 0
      · rw [h0] at hs
        simp [CB, hlt, rowAt_enc hlt, sChk, w, i1, h0]
        exact ⟨i + 1, ⟨by omega, hs⟩, by omega, weak_slots (by simp)⟩
      · rw [keep_foldl kSort h0] at hs
        have hr := pc5 hs.symm h0
        rw [← hR] at hr
        simp [CB, hlt, rowAt_enc hlt, sChk, w, h0, hr]
    rw [List.drop_eq_nil_of_le (by omega), List.foldl_nil] at hs
    simp [CB, hlt]
    refine loop_rule (C := CPr m) (sigCPr m) (mixCPr m) (fun i : Nat => ⟨[(1, .ptr 0 1 21 0 0), (12, .int .i64 i)], [CB c]⟩) (fun i => i ≤ c.sets.length ∧ (c.sets.drop i).foldl setS 0 = c.sets.foldl setS (c.order.foldl sortS (c.items.foldl itemS (partsB c)))) (fun i => c.sets.length - i) (by kernel_rfl) ⟨0, ⟨by omega, by rw [← hs]; rfl⟩, weak_slots (by simp [CB])⟩ (fun i ⟨hi, hs⟩ => ?_)
    by_cases hlt : i < c.sets.length
    · have i1 : I64 ((i : Int) + 1) := by unfold I64; omega
      have w := w6 _ (ix_mem hlt)
      rw [foldl_drop hlt] at hs
      have e0 : setS 0 (ix c.sets i) = setE (ix c.sets i) := rfl
      rw [e0] at hs
      by_cases h0 : setE (ix c.sets i) = 0
      · rw [h0] at hs
        simp [CB, hlt, rowAt_enc hlt, sSetE, w, i1, h0]
        exact ⟨i + 1, ⟨by omega, hs⟩, by omega, weak_slots (by simp)⟩
      · rw [keep_foldl kSet h0] at hs
        have hr := pc6 hs.symm h0
        rw [← hR] at hr
        simp [CB, hlt, rowAt_enc hlt, sSetE, w, h0, hr]
    rw [List.drop_eq_nil_of_le (by omega), List.foldl_nil] at hs
    obtain ⟨NW, hNW⟩ : ∃ b, b = c.names.all wordB := ⟨_, rfl⟩
    have hr : R = if NW = true then 0 else 6 := by rw [hR, hNW]; unfold partsC; rw [← hs, names_fold]
    rw [hr]
    cases NW <;> simp [CB, hlt, sWs, l7, ← hNW]
noncomputable def CCc (m : Int) : Ctx := mkC Tryz.prog (G m) [(63, .pure sUnused), (64, .pure sCounts), (65, .pure sParts)]
@[simp] theorem CCc_P (m : Int) : (CCc m).P = Tryz.prog := rfl
@[simp] theorem CCc_1 (m : Int) : (CCc m).S 63 = .pure sUnused := rfl
@[simp] theorem CCc_2 (m : Int) : (CCc m).S 64 = .pure sCounts := rfl
@[simp] theorem CCc_3 (m : Int) : (CCc m).S 65 = .pure sParts := rfl
theorem mixCCc (m : Int) : (CCc m).P.follows .mixedOrders = true := mixed
theorem sigCCc (m : Int) : SigOK (CCc m) := sigOK_cons (entryPure unusedR Tryz.func63 rfl (by decide)) (sigOK_cons (entryPure countsR Tryz.func64 rfl (by decide)) (sigOK_cons (entryPure partsR Tryz.func65 rfl (by decide)) (sigOK_nil _ _)))
def sClauseS : List AV → Option (Prop × AV) := spec1 (fun (c : Clause) => WfCS c) (fun c => .int .i64 (clauseE c))
set_option maxHeartbeats 8000000 in
theorem clauseR : PureOK Tryz.prog (G m) 42 sClauseS := by
  refine pure1 (C := CCc m) (sigCCc m) (mixCCc m) Tryz.func42 rfl rfl rfl (by kernel_rfl) (by decide) (fun c hw => ?_)
  by_cases k1 : c.kind < 1
  · simp [clauseE, k1]
  by_cases k2 : 8 < c.kind
  · simp [clauseE, k1, k2]
  have hst := stray_eq c
  cases hu : unusedB c
  case false =>
    have hst : strayB c = true := by rw [hst, hu]; rfl
    simp [clauseE, sUnused, k1, k2, hu, hst]
  by_cases s1 : c.skip < -1
  · have hst : strayB c = true := by rw [hst]; simp [rangeB, s1]
    simp [clauseE, sUnused, k1, k2, hu, hst, s1]
  by_cases s2 : 1000000000000000 < c.skip
  · have hst : strayB c = true := by rw [hst]; simp [rangeB, s2]
    simp [clauseE, sUnused, k1, k2, hu, hst, s1, s2]
  by_cases s3 : c.limit < -1
  · have hst : strayB c = true := by rw [hst]; simp [rangeB, s3]
    simp [clauseE, sUnused, k1, k2, hu, hst, s1, s2, s3]
  by_cases s4 : 1000000000000000 < c.limit
  · have hst : strayB c = true := by rw [hst]; simp [rangeB, s4]
    simp [clauseE, sUnused, k1, k2, hu, hst, s1, s2, s3, s4]
  have hst : strayB c = false := by rw [hst, hu]; simp [rangeB, s1, s2, s3, s4]
  cases hc : crowdB c <;> simp [clauseE, sUnused, sCounts, sParts, hw, k1, k2, hu, hst, s1, s2, s3, s4, hc]
end
end Go.Proofs.YtgjljfbohpnfcaaGreat


namespace Go.Proofs.YtgjljfbohpnfcaaGreat
open Go.RowKit
set_option linter.unusedSimpArgs false
set_option linter.unusedVariables false
set_option maxRecDepth 100000
section
variable {m : Int}
noncomputable def CQr (m : Int) : Ctx := mkC Tryz.prog (G m) [(42, .pure sClauseS)]
@[simp] theorem CQr_P (m : Int) : (CQr m).P = Tryz.prog := rfl
@[simp] theorem CQr_1 (m : Int) : (CQr m).S 42 = .pure sClauseS := rfl
theorem mixCQr (m : Int) : (CQr m).P.follows .mixedOrders = true := mixed
theorem sigCQr (m : Int) : SigOK (CQr m) := sigOK_cons (entryPure clauseR Tryz.func42 rfl (by decide)) (sigOK_nil _ _)
def sQueryS : List AV → Option (Prop × AV) := spec1 (fun (q : Query) => WfQS q) (fun q => pairA (queryE q))
set_option maxHeartbeats 8000000 in
theorem queryR : PureOK Tryz.prog (G m) 27 sQueryS := by
  refine pure1 (C := CQr m) (sigCQr m) (mixCQr m) Tryz.func27 rfl rfl rfl (by kernel_rfl) (by decide) (fun q ⟨hl, hw⟩ => ?_)
  rcases em2 (q.clauses = []) with h1 | h1
  · have hq : queryE q = (0, 4) := by unfold queryE; rw [if_pos (.inl (of_eq_true h1))]
    simp [h1, hq]
  by_cases h2 : 12 < q.clauses.length
  · have hq : queryE q = (0, 4) := by unfold queryE; rw [if_pos (.inr h2)]
    have h2' : (12 : Int) < q.clauses.length := by omega
    simp [h1, h2', hq]
  have hq : queryE q = goQ q.clauses.length q.clauses 0 := by unfold queryE; rw [if_neg (by rintro (h | h); exact of_eq_false h1 h; exact h2 h)]
  have h2' : ¬ (12 : Int) < q.clauses.length := by omega
  simp [h1, h2', hq]
  refine loop_rule (C := CQr m) (sigCQr m) (mixCQr m) (fun i : Nat => ⟨[(1, .ptr 0 1 1 0 0), (4, .int .i64 q.clauses.length), (5, .int .i64 i)], [QB q]⟩) (fun i => i ≤ q.clauses.length ∧ goQ q.clauses.length (q.clauses.drop i) i = goQ q.clauses.length q.clauses 0) (fun i => q.clauses.length - i) (by kernel_rfl) ⟨0, by simp, weak_slots (by simp)⟩ (fun i ⟨hi, hs⟩ => ?_)
  by_cases hlt : i < q.clauses.length
  · have i1 : I64 ((i : Int) + 1) := by unfold I64; omega
    have i2 : I64 ((q.clauses.length : Int) - 1) := by unfold I64; omega
    have w := hw _ (ix_mem hlt)
    rw [goQ_drop hlt] at hs
    by_cases hc : clauseE (ix q.clauses i) = 0
    case neg =>
      rw [if_pos hc] at hs
      simp [QB, hlt, rowAt_enc hlt, sClauseS, w, hc, ← hs]
    rw [if_neg (by simp [hc])] at hs
    by_cases hlast : i + 1 = q.clauses.length
    · have e1 : ((i : Int) = (q.clauses.length : Int) - 1) = True := eq_true (by omega)
      have e2 : ((i : Int) < (q.clauses.length : Int) - 1) = False := eq_false (by omega)
      by_cases hk : (ix q.clauses i).kind ≤ 3
      · rw [if_pos (.inr ⟨hlast, hk⟩)] at hs
        simp [QB, hlt, rowAt_enc hlt, sClauseS, w, hc, e1, e2, i2, hk, ← hs]
      · rw [if_neg (by simp [hlast, hk])] at hs
        simp [QB, hlt, rowAt_enc hlt, sClauseS, w, hc, e1, e2, i2, hk, i1]
        exact ⟨i + 1, ⟨by omega, hs⟩, by omega, weak_keep 1 (by simp) (by simp) (by simp [AV.clean, AV.clean1]) (by simp) (by simp [QB])⟩
    · have e1 : ((i : Int) = (q.clauses.length : Int) - 1) = False := eq_false (by omega)
      have e2 : ((i : Int) < (q.clauses.length : Int) - 1) = True := eq_true (by omega)
      rcases em2 ((ix q.clauses i).kind = 4) with hk | hk
      · rw [if_pos (.inl ⟨hlast, of_eq_true hk⟩)] at hs
        simp [QB, hlt, rowAt_enc hlt, sClauseS, w, hc, e1, e2, i2, hk, ← hs]
      · rw [if_neg (by rintro (⟨_, h⟩ | ⟨h, _⟩); exact of_eq_false hk h; exact hlast h)] at hs
        simp [QB, hlt, rowAt_enc hlt, sClauseS, w, hc, e1, e2, i2, hk, i1]
        exact ⟨i + 1, ⟨by omega, hs⟩, by omega, weak_keep 1 (by simp) (by simp) (by simp [AV.clean, AV.clean1]) (by simp) (by simp [QB])⟩
  · rw [List.drop_eq_nil_of_le (by omega), goQ] at hs
    simp [QB, hlt, ← hs]
end
end Go.Proofs.YtgjljfbohpnfcaaGreat


namespace Go.Proofs.YtgjljfbohpnfcaaGreat
open Go.RowKit
set_option linter.unusedSimpArgs false
set_option linter.unusedVariables false
set_option maxRecDepth 100000
structure Fl where
  b : Bool
def ZS : Blk := ⟨79, 4, [[.slice 2 true [], .slice 2 true [], .int .i64 0, .int .i64 0]], true, true⟩
def bsS (V : List Cnt) (i n : Int) : List (Nat × AV) := [(1, .int .i64 n), (2, .ptr 0 1 1 0 0), (9, .slice 2 false (encRows V)), (10, .int .i64 i)]
def tbS (q : Query) (V : List Cnt) (i : Nat) (o : Fl) : List (Nat × Nat × AV) :=
  [(0, 34, .slice 2 false (encRows V)), (1, 35, .slice 2 true []), (2, 36, .slice 2 false (encRows V)), (3, 37, .own (if o.b then 1 else 2) V.length), (4, 38, .ptr 0 1 1 0 0), (5, 39, .slice 21 false (encRows q.clauses)), (6, 40, .int .i64 i), (7, 41, .iptr (Enc.cells (ix q.clauses i))), (8, 42, .iptr (Enc.cells (ix q.clauses i))), (9, 43, .int .i64 (ix q.clauses i).kind), (10, 44, .agg [.slice 2 false (encRows V), .own (if o.b then 1 else 2) V.length, .int .i64 (ix q.clauses i).kind, .int .i64 0]), (11, 11, .ptr (if o.b then 2 else 1) 1 4 0 0)]
def hpS (q : Query) (V : List Cnt) (k : Int) (o : Fl) (l3 l11 l12 : Bool) : List Blk :=
  QB q :: (if l12 then (if o.b then [VS V, SS V 1 V.length k 0] else [SS V 2 V.length k 0, VS V]) else if l3 && l11 then (if o.b then [VS V, ZS] else [ZS, VS V]) else if l3 then [VS V] else if l11 then [ZS] else [])
structure IS (q : Query) (V : List Cnt) (i : Nat) (n : Int) (o : Fl) (L : Nat → Bool) (st : ASt) : Prop where
  b : ∀ p ∈ bsS V i n, getA st.ρ p.1 = p.2
  v : ∀ p ∈ tbS q V i o, L p.1 = true → getA st.ρ p.2.1 = p.2.2
  c3 : L 3 = true → L 11 = false → o.b = true
  c11 : L 11 = true → L 3 = false → o.b = false
  c10 : L 10 = true → L 3 = true
  c12 : L 12 = true → L 3 = true ∧ L 11 = true ∧ L 10 = true
  hp : st.H = hpS q V (ix q.clauses i).kind o (L 3) (L 11) (L 12)
def JS (q : Query) (V : List Cnt) (i : Nat) (n : Int) (L : Nat → Bool) (st : ASt) : Prop := ∃ o, IS q V i n o L st
theorem step_b {bs : List (Nat × AV)} {ρ : List (Nat × AV)} {t : Nat} {v : AV} (h : ∀ p ∈ bs, getA ρ p.1 = p.2) (ht : ∀ p ∈ bs, p.1 ≠ t) : ∀ p ∈ bs, getA ((t, v) :: ρ) p.1 = p.2 := fun p hp => by
  rw [getA, if_neg (fun e => ht p hp e.symm)]
  exact h p hp
theorem step_v {tb : List (Nat × Nat × AV)} {L : Nat → Bool} {ρ : List (Nat × AV)} {i t : Nat} {v : AV} (h : ∀ p ∈ tb, L p.1 = true → getA ρ p.2.1 = p.2.2) (ht : ∀ p ∈ tb, (p.1 = i → p.2.1 = t ∧ p.2.2 = v) ∧ (p.1 ≠ i → p.2.1 ≠ t)) :
    ∀ p ∈ tb, (decide (p.1 = i) || L p.1) = true → getA ((t, v) :: ρ) p.2.1 = p.2.2 := fun p hp hl => by
  obtain ⟨h1, h2⟩ := ht p hp
  by_cases e : p.1 = i
  · obtain ⟨h3, h4⟩ := h1 e
    rw [getA, if_pos h3.symm, h4]
  · rw [getA, if_neg (fun q => h2 e q.symm)]
    refine h p hp ?_
    simpa [e] using hl
theorem tbS_lt {q : Query} {V : List Cnt} {i : Nat} {o : Fl} : ∀ p ∈ tbS q V i o, p.1 < 12 := by simp [tbS]
theorem tb_turn {q : Query} {V : List Cnt} {i : Nat} {o o' : Fl} {L : Nat → Bool} {ρ : List (Nat × AV)} (h : ∀ p ∈ tbS q V i o, L p.1 = true → getA ρ p.2.1 = p.2.2) (h3 : L 3 = false) (h10 : L 10 = false) (h11 : L 11 = false) : ∀ p ∈ tbS q V i o', L p.1 = true → getA ρ p.2.1 = p.2.2 := by
  simp only [tbS, List.forall_mem_cons, List.not_mem_nil, false_imp_iff, implies_true, and_true] at h ⊢
  simp only [h3, h10, h11, Bool.false_eq_true, false_imp_iff, true_and, and_true] at h ⊢
  exact h
theorem enc_clause (x : Clause) : Enc.cells x = [.int .i64 x.kind, .bool x.opt, .bool x.dist, .slice 3 false (encRows x.paths), .slice 9 false (encRows x.wh), .int .i64 x.e.op, .int .i64 x.e.v.kind, .int .i64 x.e.v.n, .int .i64 x.e.v.d, .str x.e.v.s, .slice 5 false (encRows x.e.v.l), .str x.e.name, .bool x.e.dist, .slice 9 false (encRows x.e.kids), .str x.name, .slice 10 false (encRows x.items), .slice 10 false (encRows x.order), .int .i64 x.skip, .int .i64 x.limit, .slice 13 false (encRows x.sets), .slice 1 false (encRows x.names)] := by simp
section
variable {m : Int}
noncomputable def CSR (m : Int) : Ctx := mkC Tryz.prog (G m) [(28, .gen gClauseR), (27, .pure sQueryS)]
@[simp] theorem CSR_P (m : Int) : (CSR m).P = Tryz.prog := rfl
@[simp] theorem CSR_G (m : Int) : (CSR m).G = (G m) := rfl
@[simp] theorem CSR_1 (m : Int) : (CSR m).S 28 = .gen gClauseR := rfl
@[simp] theorem CSR_2 (m : Int) : (CSR m).S 27 = .pure sQueryS := rfl
theorem mixCSR (m : Int) : (CSR m).P.follows .mixedOrders = true := mixed
theorem sigCSR (m : Int) : SigOK (CSR m) := sigOK_cons (entryGen (clauseRS) Tryz.func28 rfl (by decide)) (sigOK_cons (entryPure (queryR) Tryz.func27 rfl (by decide)) (sigOK_nil _ _))
noncomputable def scBody : Code := match Tryz.f12.body with | some b => b | none => .skip
noncomputable def scLoop : Code := inCd (sq2 (sq1 (sq2 (sq2 (sq2 (sq2 scBody))))))
noncomputable def scX : Code := inCd scLoop
noncomputable def scB1 : Code := inCd (sq1 (sq2 scX))
noncomputable def scR10 : Code := sq1 scB1
set_option maxHeartbeats 16000000 in
theorem scReg {q : Query} {V : List Cnt} {i : Nat} {n : Int} (hV : V.length ≤ 24) (hi : i < q.clauses.length) : AW (CSR m) 60 0 scR10 ⟨bsS V i n, [QB q]⟩ (fun ex st' => ex = .normal ∧ Weak (CSR m) 60 0 st' ⟨[(1, .int .i64 n), (2, .ptr 0 1 1 0 0), (10, .int .i64 i), (11, .ptr 1 1 4 0 0)], [QB q, SS V 2 V.length (ix q.clauses i).kind 0, VS V]⟩) := by
  dsimp only [scR10, scB1, scX, scLoop, scBody, inCd, sq1, sq2, Tryz.f12]
  refine AW_region (sigCSR m) (mixCSR m) [[], [], [], [1, 2], [], [4], [], [5, 6], [7], [8], [0, 3, 9], [], [11, 10, 3, 0, 1, 2, 3, 4, 5, 6, 7, 8, 9, 10, 11]] (by kernel_rfl) (by kernel_rfl) (JS q V i n) ?_ ?_ ?_ ?_
  · exact ⟨⟨true⟩, ⟨by simp [bsS], by simp, by simp, by simp, by simp, by simp, by simp [hpS]⟩⟩
  · intro k o ho L st' ⟨o, hI⟩ hLi hd
    obtain ⟨ρ, H⟩ := st'
    match k, ho with
    | 0, ho =>
      have ho := Option.some.inj ho
      subst ho
      have d := hI.b (9, .slice 2 false (encRows V)) (by simp [bsS])
      simp [d]
      exact ⟨o, ⟨step_b hI.b (by simp [bsS]), step_v hI.v (by simp [tbS]), by simpa using hI.c3, by simpa using hI.c11, by simpa using hI.c10, by simpa using hI.c12, by simpa using hI.hp⟩⟩
    | 1, ho =>
      have ho := Option.some.inj ho
      subst ho
      simp
      exact ⟨o, ⟨step_b hI.b (by simp [bsS]), step_v hI.v (by simp [tbS]), by simpa using hI.c3, by simpa using hI.c11, by simpa using hI.c10, by simpa using hI.c12, by simpa using hI.hp⟩⟩
    | 2, ho =>
      have ho := Option.some.inj ho
      subst ho
      have d := hI.b (9, .slice 2 false (encRows V)) (by simp [bsS])
      simp [d]
      exact ⟨o, ⟨step_b hI.b (by simp [bsS]), step_v hI.v (by simp [tbS]), by simpa using hI.c3, by simpa using hI.c11, by simpa using hI.c10, by simpa using hI.c12, by simpa using hI.hp⟩⟩
    | 3, ho =>
      have ho := Option.some.inj ho
      subst ho
      have d1 := hI.v _ (List.mem_of_getElem? (i := 1) rfl) (hd 1 (by simp))
      have d2 := hI.v _ (List.mem_of_getElem? (i := 2) rfl) (hd 2 (by simp))
      have n10 : L 10 = false := by cases h : L 10 <;> simp_all [hI.c10]
      have n12 : L 12 = false := by cases h : L 12 <;> simp_all [hI.c12]
      cases l11 : L 11
      · have hH : H = [QB q] := by simpa [hpS, hLi, l11, n12] using hI.hp
        subst hH
        simp [d1, d2, QB]
        refine ⟨by omega, ⟨true⟩, ⟨step_b hI.b (by simp [bsS]), step_v (tb_turn hI.v hLi n10 l11) (by simp [tbS]), by simp, by simp [l11], by simp, by simp [n12], by simp [hpS, l11, n12, VS, QB]⟩⟩
      · have e := hI.c11 l11 hLi
        have hH : H = [QB q, ZS] := by simpa [hpS, hLi, l11, n12] using hI.hp
        subst hH
        simp [d1, d2, QB, ZS]
        refine ⟨by omega, o, ⟨step_b hI.b (by simp [bsS]), step_v hI.v (by simp [tbS, e]), by simp [l11], by simp, by simp, by simp [n12], by simp [hpS, l11, n12, VS, QB, ZS, e]⟩⟩
    | 4, ho =>
      have ho := Option.some.inj ho
      subst ho
      have d := hI.b (2, .ptr 0 1 1 0 0) (by simp [bsS])
      simp [d]
      exact ⟨o, ⟨step_b hI.b (by simp [bsS]), step_v hI.v (by simp [tbS]), by simpa using hI.c3, by simpa using hI.c11, by simpa using hI.c10, by simpa using hI.c12, by simpa using hI.hp⟩⟩
    | 5, ho =>
      have ho := Option.some.inj ho
      subst ho
      have d4 := hI.v _ (List.mem_of_getElem? (i := 4) rfl) (hd 4 (by simp))
      have hH : H[0]? = some ⟨24, 1, [[.slice 21 false (encRows q.clauses)]], true, true⟩ := by have h := hI.hp; simp only at h; rw [h]; rfl
      simp [d4, hH]
      exact ⟨o, ⟨step_b hI.b (by simp [bsS]), step_v hI.v (by simp [tbS]), by simpa using hI.c3, by simpa using hI.c11, by simpa using hI.c10, by simpa using hI.c12, by simpa using hI.hp⟩⟩
    | 6, ho =>
      have ho := Option.some.inj ho
      subst ho
      have d := hI.b (10, .int .i64 i) (by simp [bsS])
      simp [d]
      exact ⟨o, ⟨step_b hI.b (by simp [bsS]), step_v hI.v (by simp [tbS]), by simpa using hI.c3, by simpa using hI.c11, by simpa using hI.c10, by simpa using hI.c12, by simpa using hI.hp⟩⟩
    | 7, ho =>
      have ho := Option.some.inj ho
      subst ho
      have d5 := hI.v _ (List.mem_of_getElem? (i := 5) rfl) (hd 5 (by simp))
      have d6 := hI.v _ (List.mem_of_getElem? (i := 6) rfl) (hd 6 (by simp))
      simp [d5, d6, hi, rowAt_enc hi]
      exact ⟨o, ⟨step_b hI.b (by simp [bsS]), step_v hI.v (by simp [tbS]), by simpa using hI.c3, by simpa using hI.c11, by simpa using hI.c10, by simpa using hI.c12, by simpa using hI.hp⟩⟩
    | 8, ho =>
      have ho := Option.some.inj ho
      subst ho
      have d7 := hI.v _ (List.mem_of_getElem? (i := 7) rfl) (hd 7 (by simp))
      rw [enc_clause] at d7
      simp [d7]
      refine ⟨o, ⟨step_b hI.b (by simp [bsS]), step_v hI.v (by simp [tbS, enc_clause]), by simpa using hI.c3, by simpa using hI.c11, by simpa using hI.c10, by simpa using hI.c12, by simpa using hI.hp⟩⟩
    | 9, ho =>
      have ho := Option.some.inj ho
      subst ho
      have d8 := hI.v _ (List.mem_of_getElem? (i := 8) rfl) (hd 8 (by simp))
      rw [enc_clause] at d8
      simp [d8]
      refine ⟨o, ⟨step_b hI.b (by simp [bsS]), step_v hI.v (by simp [tbS, enc_clause]), by simpa using hI.c3, by simpa using hI.c11, by simpa using hI.c10, by simpa using hI.c12, by simpa using hI.hp⟩⟩
    | 10, ho =>
      have ho := Option.some.inj ho
      subst ho
      have d0 := hI.v _ (List.mem_of_getElem? (i := 0) rfl) (hd 0 (by simp))
      have d3 := hI.v _ (List.mem_of_getElem? (i := 3) rfl) (hd 3 (by simp))
      have d9 := hI.v _ (List.mem_of_getElem? (i := 9) rfl) (hd 9 (by simp))
      simp [d0, d3, d9]
      exact ⟨o, ⟨step_b hI.b (by simp [bsS]), step_v hI.v (by simp [tbS]), by simpa using hI.c3, by simpa using hI.c11, by simp [hd 3 (by simp)], by simpa using fun h => let x := hI.c12 h; ⟨x.1, x.2.1⟩, by simpa using hI.hp⟩⟩
    | 11, ho =>
      have ho := Option.some.inj ho
      subst ho
      have n12 : L 12 = false := by cases h : L 12 <;> simp_all [hI.c12]
      cases l3 : L 3
      · have n10 : L 10 = false := by cases h : L 10 <;> simp_all [hI.c10]
        have hH : H = [QB q] := by simpa [hpS, hLi, l3, n12] using hI.hp
        subst hH
        simp [QB]
        refine ⟨⟨false⟩, ⟨step_b hI.b (by simp [bsS]), step_v (tb_turn hI.v l3 n10 hLi) (by simp [tbS]), by simp [l3], by simp, by simp [n10], by simp [n12], by simp [hpS, l3, n12, ZS, QB]⟩⟩
      · have e := hI.c3 l3 hLi
        have hH : H = [QB q, VS V] := by simpa [hpS, hLi, l3, n12] using hI.hp
        subst hH
        simp [QB, VS]
        refine ⟨o, ⟨step_b hI.b (by simp [bsS]), step_v hI.v (by simp [tbS, e]), by simp, by simp [l3], by simp [l3], by simp [n12], by simp [hpS, l3, n12, VS, QB, ZS, e]⟩⟩
    | 12, ho =>
      have ho := Option.some.inj ho
      subst ho
      have l3 : L 3 = true := hd 3 (by simp)
      have l11 : L 11 = true := hd 11 (by simp)
      have l10 : L 10 = true := hd 10 (by simp)
      have d10 := hI.v _ (List.mem_of_getElem? (i := 10) rfl) (hd 10 (by simp))
      have d11 := hI.v _ (List.mem_of_getElem? (i := 11) rfl) (hd 11 (by simp))
      obtain ⟨o⟩ := o
      cases o
      · have hH : H = [QB q, ZS, VS V] := by simpa [hpS, hLi, l3, l11] using hI.hp
        subst hH
        simp at d10 d11
        simp [d10, d11, QB, VS, ZS]
        refine ⟨⟨false⟩, ⟨by simpa using hI.b, fun p hp hl => hI.v p hp (by have h12 : p.1 ≠ 12 := Nat.ne_of_lt (tbS_lt p hp); simpa [h12] using hl), by simp [l11], by simp [l3], by simp [l3], by simp [l3, l11, l10], by simp [hpS, SS, VS, QB]⟩⟩
      · have hH : H = [QB q, VS V, ZS] := by simpa [hpS, hLi, l3, l11] using hI.hp
        subst hH
        simp at d10 d11
        simp [d10, d11, QB, VS, ZS]
        refine ⟨⟨true⟩, ⟨by simpa using hI.b, fun p hp hl => hI.v p hp (by have h12 : p.1 ≠ 12 := Nat.ne_of_lt (tbS_lt p hp); simpa [h12] using hl), by simp [l11], by simp [l3], by simp [l3], by simp [l3, l11, l10], by simp [hpS, SS, VS, QB]⟩⟩
    | k + 13, ho => exact absurd ho (by simp)
  · intro L st' ⟨o, hI⟩ hall
    obtain ⟨ρ, H⟩ := st'
    refine ⟨rfl, ?_⟩
    have l12 := hall 12 (by decide)
    have e11 := hI.v _ (List.mem_of_getElem? (i := 11) rfl) (hall 11 (by decide))
    have b1 := hI.b (1, .int .i64 n) (by simp [bsS])
    have b2 := hI.b (2, .ptr 0 1 1 0 0) (by simp [bsS])
    have b10 := hI.b (10, .int .i64 i) (by simp [bsS])
    have hH := hI.hp
    simp only [hpS, l12, if_true] at hH
    obtain ⟨o⟩ := o
    cases o
    · simp at hH e11
      subst hH
      exact weak_eq (by simp [b1, b2, b10, e11]) rfl
    · simp at hH e11
      subst hH
      let π : Nat → Nat := fun l => if l = 1 then 2 else if l = 2 then 1 else l
      refine weak_perm π π (fun l hl => ?_) (fun l hl => ?_) (fun l hl => absurd hl (Nat.not_lt_zero _)) ?_ rfl ?_ ?_
      · simp at hl; match l, hl with | 0, _ => simp [π] | 1, _ => simp [π] | 2, _ => simp [π]
      · simp at hl; match l, hl with | 0, _ => simp [π] | 1, _ => simp [π] | 2, _ => simp [π]
      · intro b hb r hr c hc
        simp only [List.mem_cons, List.not_mem_nil, or_false] at hb
        rcases hb with rfl | rfl | rfl
        · simp [QB] at hr; subst hr; simp at hc; subst hc; rfl
        · obtain ⟨x, _, rfl⟩ := List.mem_map.1 hr
          simp at hc
          rcases hc with rfl | rfl <;> rfl
        · simp [SS] at hr; subst hr; simp at hc
          rcases hc with rfl | rfl | rfl | rfl <;> rfl
      · intro l b hl
        have hv : (encRows V).map (fun r => r.map (prmA π)) = encRows V := by
          refine (List.map_congr_left fun r hr => ?_).trans (List.map_id _)
          obtain ⟨x, _, rfl⟩ := List.mem_map.1 hr
          simp [prmA]
        match l, hl with
        | 0, hl => simp at hl; subst hl; simp [π, prmB, QB, prmA]
        | 1, hl => simp at hl; subst hl; simp [π, prmB, VS, hv]
        | 2, hl => simp at hl; subst hl; simp [π, prmB, SS, prmA]
        | k + 3, hl => simp at hl
      · simp [b1, b2, b10, e11, prmA, π, AV.clean1]
  · intro L L' st' he ⟨o, hI⟩
    obtain rfl : L = L' := funext he
    exact ⟨o, hI⟩
end
end Go.Proofs.YtgjljfbohpnfcaaGreat


namespace Go.Proofs.YtgjljfbohpnfcaaGreat
open Go.RowKit
set_option linter.unusedSimpArgs false
set_option linter.unusedVariables false
set_option maxRecDepth 100000
def LabQ (q : Query) : Prop := ∀ c ∈ q.clauses, LabC c
theorem goR_drop {V : List Cnt} {l : List Clause} {i : Nat} (h : i < l.length) : goR V (l.drop i) i = if (Rs.clause ⟨V, V, (ix l i).kind, 0⟩ (ix l i)).e ≠ 0 then ([], (i : Int), (Rs.clause ⟨V, V, (ix l i).kind, 0⟩ (ix l i)).e) else goR (Rs.clause ⟨V, V, (ix l i).kind, 0⟩ (ix l i)).vars (l.drop (i + 1)) (i + 1) := by
  rw [List.drop_eq_getElem_cons h, goR, ix_lt h]
theorem ix_take {α : Type} [Inhabited α] {l : List α} {k i : Nat} (h : i < k) : ix (l.take k) i = ix l i := by
  by_cases hl : i < l.length
  · rw [ix_lt (by rw [List.length_take]; omega), ix_lt hl, List.getElem_take]
  · unfold ix
    simp [List.getElem?_take, h]
theorem OKR.clause {s : Rs} (h : OKR s) {c : Clause} (hit : c.kind = 3 ∨ c.kind = 4 → c.items.length ≤ 16) : OKR (s.clause c) := by
  have hA := h.pathL (l := c.paths)
  have hU : OKR (if c.kind = 2 then (s.pathL c.paths).unwind c else s.pathL c.paths) := by
    split
    · exact hA.unwind c
    · exact hA
  unfold Rs.clause
  dsimp only
  generalize (if c.kind = 2 then (s.pathL c.paths).unwind c else s.pathL c.paths) = b at *
  by_cases h34 : c.kind = 3 ∨ c.kind = 4
  · rw [if_pos h34]
    have hc : OKR (Rs.itemL { b with vars := [] } c.items) := hU.cols (hit h34)
    exact (hc.sorts.chks).setL.nameL
  · rw [if_neg h34]
    exact (hU.chks).setL.nameL
theorem gClauseR_a {q : Blk} {V : List Cnt} {k : Int} {x : Clause} (h34 : x.kind = 3 ∨ x.kind = 4) : gClauseR [.ptr 1 1 4 0 0, .agg [.int .i64 x.kind, .bool x.opt, .bool x.dist, .slice 3 false (encRows x.paths), .slice 9 false (encRows x.wh), .int .i64 x.e.op, .int .i64 x.e.v.kind, .int .i64 x.e.v.n, .int .i64 x.e.v.d, .str x.e.v.s, .slice 5 false (encRows x.e.v.l), .str x.e.name, .bool x.e.dist, .slice 9 false (encRows x.e.kids), .str x.name, .slice 10 false (encRows x.items), .slice 10 false (encRows x.order), .int .i64 x.skip, .int .i64 x.limit, .slice 13 false (encRows x.sets), .slice 1 false (encRows x.names)]] [q, SS V 2 V.length k 0, VS V] = some (q.deep = true ∧ OKR ⟨V, V, k, 0⟩ ∧ GoodC x ∧ LabC x ∧ x.items.length ≤ 16, .tup [], [q, KSt.A (Rs.clause ⟨V, V, k, 0⟩ x) 4, VS (Rs.pathL ⟨V, V, k, 0⟩ x.paths).vars, CBk x, KSt.V (Rs.clause ⟨V, V, k, 0⟩ x)]) := by
  have h1 : KSt.un (SS V 2 V.length k 0) (VS V) = ⟨V, V, k, 0⟩ := KSt.un_A ⟨V, V, k, 0⟩ 2
  have e1 : (Enc.dec (Enc.enc x) : Clause) = x := Enc.dec_enc x
  have h2 : gClauseR [.ptr 1 1 4 0 0, Enc.enc x] [q, SS V 2 V.length k 0, VS V] = some ((q.deep = true ∧ SS V 2 V.length k 0 = KSt.A (KSt.un (SS V 2 V.length k 0) (VS V)) 2 ∧ VS V = KSt.V (KSt.un (SS V 2 V.length k 0) (VS V))) ∧ OKR (KSt.un (SS V 2 V.length k 0) (VS V)) ∧ Enc.enc x = Enc.enc (Enc.dec (Enc.enc x) : Clause) ∧ GoodC (Enc.dec (Enc.enc x)) ∧ LabC (Enc.dec (Enc.enc x)) ∧ ((Enc.dec (Enc.enc x) : Clause).kind = 3 ∨ (Enc.dec (Enc.enc x) : Clause).kind = 4 → (Enc.dec (Enc.enc x) : Clause).items.length ≤ 16),
      .tup [], clauseH q (KSt.un (SS V 2 V.length k 0) (VS V)) (Enc.dec (Enc.enc x))) := rfl
  rw [h1, e1] at h2
  unfold clauseH at h2
  rw [if_pos h34] at h2
  rw [show (Enc.enc x : AV) = .agg (Enc.cells x) from rfl, enc_clause] at h2
  refine h2.trans (congrArg (fun P => some (P, AV.tup [], [q, KSt.A (Rs.clause ⟨V, V, k, 0⟩ x) 4, VS (Rs.pathL ⟨V, V, k, 0⟩ x.paths).vars, CBk x, KSt.V (Rs.clause ⟨V, V, k, 0⟩ x)])) ?_)
  refine propext ⟨fun h => ⟨h.1.1, h.2.1, h.2.2.2.1, h.2.2.2.2.1, h.2.2.2.2.2 h34⟩, fun h => ⟨⟨h.1, rfl, rfl⟩, h.2.1, rfl, h.2.2.1, h.2.2.2.1, fun _ => h.2.2.2.2⟩⟩
theorem gClauseR_b {q : Blk} {V : List Cnt} {k : Int} {x : Clause} (h34 : ¬ (x.kind = 3 ∨ x.kind = 4)) : gClauseR [.ptr 1 1 4 0 0, .agg [.int .i64 x.kind, .bool x.opt, .bool x.dist, .slice 3 false (encRows x.paths), .slice 9 false (encRows x.wh), .int .i64 x.e.op, .int .i64 x.e.v.kind, .int .i64 x.e.v.n, .int .i64 x.e.v.d, .str x.e.v.s, .slice 5 false (encRows x.e.v.l), .str x.e.name, .bool x.e.dist, .slice 9 false (encRows x.e.kids), .str x.name, .slice 10 false (encRows x.items), .slice 10 false (encRows x.order), .int .i64 x.skip, .int .i64 x.limit, .slice 13 false (encRows x.sets), .slice 1 false (encRows x.names)]] [q, SS V 2 V.length k 0, VS V] = some (q.deep = true ∧ OKR ⟨V, V, k, 0⟩ ∧ GoodC x ∧ LabC x, .tup [], [q, KSt.A (Rs.clause ⟨V, V, k, 0⟩ x) 2, KSt.V (Rs.clause ⟨V, V, k, 0⟩ x)]) := by
  have h1 : KSt.un (SS V 2 V.length k 0) (VS V) = ⟨V, V, k, 0⟩ := KSt.un_A ⟨V, V, k, 0⟩ 2
  have e1 : (Enc.dec (Enc.enc x) : Clause) = x := Enc.dec_enc x
  have h2 : gClauseR [.ptr 1 1 4 0 0, Enc.enc x] [q, SS V 2 V.length k 0, VS V] = some ((q.deep = true ∧ SS V 2 V.length k 0 = KSt.A (KSt.un (SS V 2 V.length k 0) (VS V)) 2 ∧ VS V = KSt.V (KSt.un (SS V 2 V.length k 0) (VS V))) ∧ OKR (KSt.un (SS V 2 V.length k 0) (VS V)) ∧ Enc.enc x = Enc.enc (Enc.dec (Enc.enc x) : Clause) ∧ GoodC (Enc.dec (Enc.enc x)) ∧ LabC (Enc.dec (Enc.enc x)) ∧ ((Enc.dec (Enc.enc x) : Clause).kind = 3 ∨ (Enc.dec (Enc.enc x) : Clause).kind = 4 → (Enc.dec (Enc.enc x) : Clause).items.length ≤ 16),
      .tup [], clauseH q (KSt.un (SS V 2 V.length k 0) (VS V)) (Enc.dec (Enc.enc x))) := rfl
  rw [h1, e1] at h2
  unfold clauseH at h2
  rw [if_neg h34] at h2
  rw [show (Enc.enc x : AV) = .agg (Enc.cells x) from rfl, enc_clause] at h2
  refine h2.trans (congrArg (fun P => some (P, AV.tup [], [q, KSt.A (Rs.clause ⟨V, V, k, 0⟩ x) 2, KSt.V (Rs.clause ⟨V, V, k, 0⟩ x)])) ?_)
  refine propext ⟨fun h => ⟨h.1.1, h.2.1, h.2.2.2.1, h.2.2.2.2.1⟩, fun h => ⟨⟨h.1, rfl, rfl⟩, h.2.1, rfl, h.2.2.1, h.2.2.2, fun q => absurd q h34⟩⟩
section
variable {m : Int}
def sScopeR : List AV → Option (Prop × AV) := spec2 (fun (q : Query) (_ : Int) => WfQS q ∧ GoodQ q ∧ LabQ q) (fun q n => triA (scopeF q n))
set_option maxHeartbeats 16000000 in
theorem scopeR : PureOK Tryz.prog (G m) 12 sScopeR := by
  refine pureH2 (C := CSR m) (sigCSR m) (mixCSR m) Tryz.func12 rfl rfl rfl [10, 13] (by kernel_rfl) (by decide) (fun q n ⟨hw, hg, hlab⟩ => ?_)
  obtain ⟨a, e, hQ⟩ : ∃ a e, queryE q = (a, e) := ⟨_, _, rfl⟩
  obtain ⟨R, hR⟩ : ∃ R, scopeF q n = R := ⟨_, rfl⟩
  rw [hR]
  unfold scopeF at hR
  rw [hQ] at hR
  by_cases he : e = 0
  case neg =>
    rw [if_pos he] at hR
    simp [sQueryS, hw, hQ, he, ← hR, triA]
  subst he
  rw [if_neg (by simp)] at hR
  have hfit := query_fits (q := q) (by rw [hQ])
  obtain ⟨k, hk⟩ : ∃ k, cutN q n = k := ⟨_, rfl⟩
  have hkl : k ≤ q.clauses.length := by rw [← hk]; unfold cutN; omega
  rw [hk, goS_eq _ _ _ (fun c hc => hfit c (List.mem_of_mem_take hc)) rfl] at hR
  have hql : q.clauses.length ≤ 9223372036854775807 := hg.1.1
  obtain ⟨n', hn'⟩ : ∃ n' : Int, (if (q.clauses.length : Int) < n then (q.clauses.length : Int) else n) = n' := ⟨_, rfl⟩
  have hlt' : ∀ i : Nat, ((i : Int) < n') ↔ i < k := fun i => by
    rw [← hn', ← hk]
    unfold cutN
    split <;> omega
  obtain ⟨l, hl⟩ : ∃ l, q.clauses.take k = l := ⟨_, rfl⟩
  have hll : l.length = k := by rw [← hl, List.length_take]; omega
  rw [hl] at hR
  have hloop : ∀ (ρ : List (Nat × AV)), True := fun _ => trivial
  by_cases hnl : (q.clauses.length : Int) < n
  case' pos =>
    rw [if_pos hnl] at hn'
    simp [sQueryS, hw, hQ, hnl]
  case' neg =>
    rw [if_neg hnl] at hn'
    simp [sQueryS, hw, hQ, hnl]
  all_goals
    refine loop_ruleH (C := CSR m) (sigCSR m) (mixCSR m) [10, 13] (fun p : Nat × List Cnt => ⟨[(1, .int .i64 n'), (2, .ptr 0 1 1 0 0), (9, Enc.enc p.2), (10, .int .i64 p.1)], [QB q]⟩) (fun p => p.1 ≤ k ∧ p.2.length ≤ 24 ∧ goR p.2 (l.drop p.1) p.1 = R) (fun p => k - p.1) (by kernel_rfl) ⟨(0, []), ⟨Nat.zero_le _, Nat.zero_le _, hR⟩, (weak_nrmT 9 2 [] (by simp)).trans (weak_eq (by simp [hn']) (by simp [QB]))⟩ (fun ⟨i, V⟩ ⟨hi, hV, hs⟩ => ?_)
    simp only at hi hV hs ⊢
    by_cases hlt : i < k
    · have i1 : I64 ((i : Int) + 1) := by unfold I64; omega
      have hin : (i : Int) < n' := (hlt' i).2 hlt
      have hiq : i < q.clauses.length := by omega
      have hil : i < l.length := by omega
      have hix : ix l i = ix q.clauses i := by rw [← hl]; exact ix_take hlt
      rw [goR_drop hil, hix] at hs
      have hgc := hg.2 _ (ix_mem hiq)
      have hlc := hlab _ (ix_mem hiq)
      have hfc := hfit _ (ix_mem hiq)
      have hs0 : OKR ⟨V, V, (ix q.clauses i).kind, 0⟩ := ⟨hV, hV⟩
      have hsc := hs0.clause hfc.items
      simp [hin]
      refine AW.weak (weak_eq (ρ' := bsS V i n') (H' := [QB q]) (by simp [bsS]) (by simp [QB])) (AW_fin _ (scReg hV hiq) ?_)
      have hQB : (QB q).deep = true := rfl
      by_cases h34 : (ix q.clauses i).kind = 3 ∨ (ix q.clauses i).kind = 4
      · have hcl := gClauseR_a (q := QB q) (V := V) (k := (ix q.clauses i).kind) h34
        have hit := hfc.items h34
        generalize hx : ix q.clauses i = x at *
        generalize hb : Rs.clause ⟨V, V, x.kind, 0⟩ x = b at *
        by_cases hbe : b.e = 0
        · rw [if_neg (by simp [hbe])] at hs
          simp [QB, SS, VS, KSt_A, KSt_V] at hcl
          simp [QB, SS, VS, KSt_A, KSt_V, hiq, rowAt_enc hiq, hx, hcl, hs0, hgc, hlc, hit, hbe, i1]
          refine ⟨i + 1, b.vars, ⟨by omega, hsc.2, hs⟩, by omega, (weak_view 9).trans (weak_keep 1 (by simp [view]) (Nat.zero_le _) (by simp [AV.clean, AV.clean1]) (by simp [view, frzL, reach]) (by simp [QB, frzL, reach]))⟩
        · rw [if_pos hbe] at hs
          simp [QB, SS, VS, KSt_A, KSt_V] at hcl
          simp [QB, SS, VS, KSt_A, KSt_V, hiq, rowAt_enc hiq, hx, hcl, hs0, hgc, hlc, hit, hbe, i1]
          refine AW_regionF (sigCSR m) (mixCSR m) [.pure, .pure, .read, .pure, .pure, .pure] [[],[],[1],[],[3,0],[0,3,4,1,2]] (by kernel_rfl) (by kernel_rfl) (by kernel_rfl) (by kernel_rfl) ?_
          simp [QB, SS, VS, KSt_A, KSt_V, ← hs, triA]
      · have hcl := gClauseR_b (q := QB q) (V := V) (k := (ix q.clauses i).kind) h34
        generalize hx : ix q.clauses i = x at *
        generalize hb : Rs.clause ⟨V, V, x.kind, 0⟩ x = b at *
        by_cases hbe : b.e = 0
        · rw [if_neg (by simp [hbe])] at hs
          simp [QB, SS, VS, KSt_A, KSt_V] at hcl
          simp [QB, SS, VS, KSt_A, KSt_V, hiq, rowAt_enc hiq, hx, hcl, hs0, hgc, hlc, hbe, i1]
          refine ⟨i + 1, b.vars, ⟨by omega, hsc.2, hs⟩, by omega, (weak_view 9).trans (weak_keep 1 (by simp [view]) (Nat.zero_le _) (by simp [AV.clean, AV.clean1]) (by simp [view, frzL, reach]) (by simp [QB, frzL, reach]))⟩
        · rw [if_pos hbe] at hs
          simp [QB, SS, VS, KSt_A, KSt_V] at hcl
          simp [QB, SS, VS, KSt_A, KSt_V, hiq, rowAt_enc hiq, hx, hcl, hs0, hgc, hlc, hbe, i1]
          refine AW_regionF (sigCSR m) (mixCSR m) [.pure, .pure, .read, .pure, .pure, .pure] [[],[],[1],[],[3,0],[0,3,4,1,2]] (by kernel_rfl) (by kernel_rfl) (by kernel_rfl) (by kernel_rfl) ?_
          simp [QB, SS, VS, KSt_A, KSt_V, ← hs, triA]
    · have hik : i = k := by omega
      rw [List.drop_eq_nil_of_le (by omega), goR] at hs
      have hin : ¬ (i : Int) < n' := fun h => hlt ((hlt' i).1 h)
      simp [hin, ← hs, triA]
end
end Go.Proofs.YtgjljfbohpnfcaaGreat


namespace Go.Proofs.YtgjljfbohpnfcaaGreat
open Go.RowKit
set_option linter.unusedSimpArgs false
set_option linter.unusedVariables false
set_option maxRecDepth 100000
section
variable {m : Int}
noncomputable def CCqR (m : Int) : Ctx := mkC Tryz.prog (G m) [(12, .pure sScopeR)]
@[simp] theorem CCqR_P (m : Int) : (CCqR m).P = Tryz.prog := rfl
@[simp] theorem CCqR_G (m : Int) : (CCqR m).G = (G m) := rfl
@[simp] theorem CCqR_1 (m : Int) : (CCqR m).S 12 = .pure sScopeR := rfl
theorem mixCCqR (m : Int) : (CCqR m).P.follows .mixedOrders = true := mixed
theorem sigCCqR (m : Int) : SigOK (CCqR m) := sigOK_cons (entryPure (scopeR) Tryz.func12 rfl (by decide)) (sigOK_nil _ _)
def sCheckQR : List AV → Option (Prop × AV) := spec1 (fun (q : Query) => WfQS q ∧ GoodQ q ∧ LabQ q) (fun q => triS (checkQ q))
set_option maxHeartbeats 8000000 in
theorem checkQRR : PureOK Tryz.prog (G m) 15 sCheckQR := by
  refine pureH1 (C := CCqR m) (sigCCqR m) (mixCCqR m) Tryz.func15 rfl rfl rfl [] (by kernel_rfl) (by decide) (fun q ⟨hw, hg, hlab⟩ => ?_)
  have hql : q.clauses.length ≤ 9223372036854775807 := hg.1.1
  obtain ⟨s, i, e, hS⟩ : ∃ s i e, scopeF q q.clauses.length = (s, i, e) := ⟨_, _, _, rfl⟩
  obtain ⟨R, hR⟩ : ∃ R, checkQ q = R := ⟨_, rfl⟩
  rw [hR]
  have hsl := scope_len q q.clauses.length
  have hqe := fun h => queryE_nil (scope_query (q := q) (n := q.clauses.length) h)
  unfold checkQ at hR
  rw [hS] at hR hsl hqe
  simp only at hR hsl hqe
  by_cases he : e = 0
  case neg =>
    rw [if_pos he] at hR
    simp [sScopeR, hw, hg, hlab, hS, triA, he, ← hR, triS]
  subst he
  have h0 := hqe rfl
  rw [if_neg (by simp)] at hR
  have i1 : I64 ((q.clauses.length : Int) - 1) := by unfold I64; omega
  have i2 : ((q.clauses.length : Int) - 1).toNat = q.clauses.length - 1 := by omega
  have i3 : q.clauses.length - 1 < q.clauses.length := by omega
  have i4 : (1 : Int) ≤ q.clauses.length := by omega
  have i5 : (q.clauses.length : Int) - 1 < q.clauses.length := by omega
  rcases em2 ((ix q.clauses (q.clauses.length - 1)).kind = 4) with hk | hk
  case inr =>
    rw [if_neg (of_eq_false hk)] at hR
    simp [sScopeR, hw, hg, hlab, hS, triA, ← hR, triS, i1, i2, i3, i4, i5, rowAt_enc i3, hk]
  rw [if_pos (of_eq_true hk)] at hR
  simp [sScopeR, hw, hg, hlab, hS, triA, ← hR, triS, i1, i2, i3, i4, i5, rowAt_enc i3, hk]
  refine AW.weak (weak_nil 8 1 9 rfl (by decide)) ?_
  refine loop_ruleH (C := CCqR m) (sigCCqR m) (mixCCqR m) [] (fun i : Nat => ⟨[(5, Enc.enc s), (8, .own 1 i), (9, .int .i64 i)], [QB q, SB ((s.take i).map Cnt.Name)]⟩) (fun i => i ≤ s.length) (fun i => s.length - i) (by kernel_rfl) ⟨0, Nat.zero_le _, weak_eq (by simp) (by simp [QB, SB])⟩ (fun i hi => ?_)
  have htl : ((s.take i).map Cnt.Name).length = i := by rw [List.length_map, List.length_take]; omega
  have htl2 : (s.take i).length = i := by rw [List.length_take]; omega
  by_cases hlt : i < s.length
  · have i6 : I64 ((i : Int) + 1) := by unfold I64; omega
    have ht : (s.take (i + 1)).map Cnt.Name = (s.take i).map Cnt.Name ++ [(ix s i).Name] := by rw [List.take_succ_eq_append_getElem hlt, List.map_append, ix_lt hlt]; rfl
    generalize (s.take i).map Cnt.Name = acc at *
    have ht2 : (s.map Cnt.Name).take (i + 1) = acc ++ [(ix s i).Name] := by rw [← List.map_take]; exact ht
    simp [QB, SB, hlt, rowAt_enc hlt, htl, i6]
    exact ⟨by omega, i + 1, by omega, by omega, weak_keep 2 (by simp) (by simp) (by simp [AV.clean, AV.clean1]) (by simp) (by simp [QB, SB, ht2])⟩
  · obtain rfl : i = s.length := by omega
    rw [List.take_length] at htl ⊢
    simp [QB, SB, hlt]
noncomputable def CLsc (m : Int) : Ctx := mkC Tryz.prog (G m) [(9, .pure sLight), (10, .pure sLivesB), (11, .pure sScope), (12, .pure sScopeR), (13, .pure sSame)]
@[simp] theorem CLsc_P (m : Int) : (CLsc m).P = Tryz.prog := rfl
@[simp] theorem CLsc_G (m : Int) : (CLsc m).G = (G m) := rfl
@[simp] theorem CLsc_1 (m : Int) : (CLsc m).S 9 = .pure sLight := rfl
@[simp] theorem CLsc_2 (m : Int) : (CLsc m).S 10 = .pure sLivesB := rfl
@[simp] theorem CLsc_3 (m : Int) : (CLsc m).S 11 = .pure sScope := rfl
@[simp] theorem CLsc_4 (m : Int) : (CLsc m).S 12 = .pure sScopeR := rfl
@[simp] theorem CLsc_5 (m : Int) : (CLsc m).S 13 = .pure sSame := rfl
theorem mixCLsc (m : Int) : (CLsc m).P.follows .mixedOrders = true := mixed
theorem sigCLsc (m : Int) : SigOK (CLsc m) := sigOK_cons (entryPure (lightR) Tryz.func9 rfl (by decide)) (sigOK_cons (entryPure (livesB) Tryz.func10 rfl (by decide)) (sigOK_cons (entryPure (scopeP) Tryz.func11 rfl (by decide)) (sigOK_cons (entryPure (scopeR) Tryz.func12 rfl (by decide)) (sigOK_cons (entryPure (sameR) Tryz.func13 rfl (by decide)) (sigOK_nil _ _)))))
set_option maxHeartbeats 8000000 in
theorem lawScopes : PureOK Tryz.prog (G m) 3 (spec2 (fun (q : Query) (_ : Int) => WfQS q ∧ GoodQ q ∧ LabQ q) (fun _ _ => .bool true)) := by
  refine pureH2 (C := CLsc m) (sigCLsc m) (mixCLsc m) Tryz.func3 rfl rfl rfl [] (by kernel_rfl) (by decide) (fun q n ⟨hq, hg, hlab⟩ => ?_)
  have hw := hg.1
  cases hL : lightB q
  · simp [sLight, sLivesB, hq, hL]
  obtain ⟨s, k, f, hS⟩ : ∃ s k f, scopeF q n = (s, k, f) := ⟨_, _, _, rfl⟩
  have hsl := scope_len q n
  rw [hS] at hsl
  have hsl' : s.length ≤ 1000000000000 := by simp only at hsl; omega
  simp [sLight, sLivesB, sScope, sScopeR, sSame, triA, hq, hg, hlab, hL, hS, hsl']
noncomputable def CLck (m : Int) : Ctx := mkC Tryz.prog (G m) [(9, .pure sLight), (10, .pure sLivesB), (14, .pure sCheckQ), (15, .pure sCheckQR), (16, .pure sTexts)]
@[simp] theorem CLck_P (m : Int) : (CLck m).P = Tryz.prog := rfl
@[simp] theorem CLck_G (m : Int) : (CLck m).G = (G m) := rfl
@[simp] theorem CLck_1 (m : Int) : (CLck m).S 9 = .pure sLight := rfl
@[simp] theorem CLck_2 (m : Int) : (CLck m).S 10 = .pure sLivesB := rfl
@[simp] theorem CLck_3 (m : Int) : (CLck m).S 14 = .pure sCheckQ := rfl
@[simp] theorem CLck_4 (m : Int) : (CLck m).S 15 = .pure sCheckQR := rfl
@[simp] theorem CLck_5 (m : Int) : (CLck m).S 16 = .pure sTexts := rfl
theorem mixCLck (m : Int) : (CLck m).P.follows .mixedOrders = true := mixed
theorem sigCLck (m : Int) : SigOK (CLck m) := sigOK_cons (entryPure (lightR) Tryz.func9 rfl (by decide)) (sigOK_cons (entryPure (livesB) Tryz.func10 rfl (by decide)) (sigOK_cons (entryPure (checkQP) Tryz.func14 rfl (by decide)) (sigOK_cons (entryPure (checkQRR) Tryz.func15 rfl (by decide)) (sigOK_cons (entryPure (textsR) Tryz.func16 rfl (by decide)) (sigOK_nil _ _)))))
theorem checkQ_len (q : Query) : (checkQ q).1.length ≤ 24 := by
  unfold checkQ
  have h := scope_len q q.clauses.length
  split
  · exact Nat.zero_le _
  · simp only
    split
    · simpa using h
    · exact Nat.zero_le _
set_option maxHeartbeats 8000000 in
theorem lawChecks : PureOK Tryz.prog (G m) 4 (spec1 (fun (q : Query) => WfQS q ∧ GoodQ q ∧ LabQ q) (fun _ => .bool true)) := by
  refine pureH1 (C := CLck m) (sigCLck m) (mixCLck m) Tryz.func4 rfl rfl rfl [] (by kernel_rfl) (by decide) (fun q ⟨hq, hg, hlab⟩ => ?_)
  cases hL : lightB q
  · simp [sLight, sLivesB, hq, hL]
  obtain ⟨s, k, f, hS⟩ : ∃ s k f, checkQ q = (s, k, f) := ⟨_, _, _, rfl⟩
  have hsl := checkQ_len q
  rw [hS] at hsl
  have hsl' : s.length ≤ 1000000000000 := by simp only at hsl; omega
  simp [sLight, sLivesB, sCheckQ, sCheckQR, sTexts, triS, hq, hg, hlab, hL, hS, hsl']
end
theorem len_sumB {α : Type} {b : α → Nat} (h : ∀ a, 1 ≤ b a) : ∀ l : List α, l.length ≤ (l.map b).sum
  | [] => Nat.zero_le _
  | a :: r => by
    have := len_sumB h r
    have := h a
    simp only [List.map_cons, List.sum_cons, List.length_cons]
    omega
theorem labQ_of {q : Query} (h : bulkY q ≤ 1048576) : LabQ q := by
  intro c hc p hp n hn
  have h1 := sum_mem (b := bulkC) hc
  have h2 := sum_mem (b := bulkP) hp
  have h3 := sum_mem (b := bulkN) hn
  have h4 := len_sumB (b := bulkS) (fun s => by unfold bulkS; omega) n.labels
  have h5 := len_sumB (b := bulkQ) (fun s => by unfold bulkQ; omega) n.props
  unfold bulkY bulkL at h
  generalize (q.clauses.map bulkC).sum = S1 at *
  unfold bulkC bulkL at h1
  generalize (c.paths.map bulkP).sum = S2 at *
  unfold bulkP bulkL at h2
  generalize (p.nodes.map bulkN).sum = S3 at *
  unfold bulkN bulkL at h3
  show n.labels.length + n.props.length ≤ 9223372036854775807
  omega
theorem goodQR_of {q : Query} (hw : W0Y q) (h : bulkY q ≤ 1048576) : WfQS q ∧ GoodQ q ∧ LabQ q := ⟨(goodQ_of hw h).1, (goodQ_of hw h).2, labQ_of h⟩
end Go.Proofs.YtgjljfbohpnfcaaGreat


namespace Go.Proofs.YtgjljfbohpnfcaaGreat
open Go Go.ChangeShapes
set_option maxRecDepth 100000 in
theorem bulk_bound {H : Type} {l : List (DataW H)} (hk : Rows.uptoSmall H l = true) : Rows.uptoBulkAll l ≤ 1048576 := by
  unfold Rows.uptoSmall at hk
  exact of_decide_eq_true hk
theorem returns_of_cond_shaped {H : Type} {enc : TypeId × Value → H} {a : Assume} {C : Checked} {os : Os} {f : FuncId} {fn : Func} {s : OpenSpec} {k : (H : Type) → List (DataW H) → Bool} (hk : s.cond = some k) {F : Stop.Interp} {conds : List PathCond} {apart fresh handsOn again : Bool}
    (own : ownKnob C.prog.godebug = none) (started : os.Started) (noInit : C.prog.inits.idxOf? f = none) (hfn : C.prog.funcs[f]? = some fn)
    (witness : ∃ (w : World) (tape : Tape) (i : Input), w.os = os ∧ (w.forCall tape i).Shaped C.prog ∧ i.vars = [] ∧ Input.okWide C.prog (w.forCall tape i) .any w.heap.size f i ∧
      s.pre6 enc C.prog fn conds apart (w.forCall tape i).memory i.args ∧ a.holds C.prog (lone (Frame.enter C.prog f i.args .normal) [] (w.forCall tape i)))
    (contract : ∀ (W : World) (base : Nat) (args : Array Value) (ds gs : List (DataW H)) (before : List MemPlace),
      (∀ (j : Nat) t v, fn.params[j]? = some t → args[j]? = some v → Value.okWide C.prog W .any base t v) →
      DataW.Whole enc C.prog fn.params.toList s.vars apart W args.toList ds gs before →
      k H (ds ++ gs) = true → W.ShapedOpen C.prog →
      Calls C.prog f args W fun e W' => ∃ v, e = .returned v ∧ (s.at F).post enc C.prog fn apart fresh handsOn again W args v W') :
    ReturnsInHanded a C os f .any (s.pre6 enc C.prog fn conds apart) ((s.at F).post enc C.prog fn apart fresh handsOn again) := by
  refine returnsInHanded_of_calls own started noInit witness ?_
  intro w tape i _ hsh _ hok hpre hholds
  obtain ⟨_, _, _, fn', hfn', _, _, _, _, hval⟩ := hok
  have e : fn' = fn := Option.some.inj (hfn'.symm.trans hfn)
  subst e
  obtain ⟨ds, gs, before, hw, hc, hkk⟩ := (OpenSpec.pre_some hk conds apart _ _).1 hpre.1
  have hw' := DataW.Whole.of_heap (w' := w.forCall tape i) (by rfl) hw
  refine (contract (w.forCall tape i) w.heap.size i.args ds gs before hval hw' hkk hsh).mono fun e W' ⟨v, he, hp⟩ => ?_
  subst he
  exact ChangeSpec.post_blind hp
end Go.Proofs.YtgjljfbohpnfcaaGreat


namespace Go.Proofs.YtgjljfbohpnfcaaGreat
end Go.Proofs.YtgjljfbohpnfcaaGreat
