/-
  Tokens in memory, the scanner's block, and the law of 'x.out = append(x.out, token)'.
-/
import Derived.Test.YtogepfcmmmokdaaReserved
import Derived.Maps.AppendAt
import Derived.Deep.RegionLaw
namespace Go.Proofs.Ytogepfcmmmokdaa
open Go.RowKit

structure Tok where
  kind : Int
  at_ : Int
  size : Int
  n : Int
  s : ByteArray

def Tok.cells (t : Tok) : List Value := [.int .i64 t.kind, .int .i64 t.at_, .int .i64 t.size, .int .i64 t.n, .string t.s]

def OwnT (w : World) (B : Nat) (v : Value) (ts : List Tok) : Prop := w.ownsRow B 31 5 v ts.length (ts.flatMap Tok.cells)

theorem info31 : (Try.prog.info? 31).map (fun i => (i.zero, i.size, i.bytes)) = some (some (.agg #[.int .i64 0, .int .i64 0, .int .i64 0, .int .i64 0, .string ⟨#[]⟩]), 5, 48) := by kernel_rfl

theorem Tok.oneCell (t : Tok) : ∀ u ∈ t.cells, u.oneCell' = true := by
  intro u hu
  simp only [Tok.cells, List.mem_cons, List.not_mem_nil, or_false] at hu
  rcases hu with rfl | rfl | rfl | rfl | rfl <;> rfl

/-- What an append of one token leaves; V: the world w with the token's own new block, but for draws. -/
theorem tok_append {w V : World} {B X : Nat} {v : Value} {ts : List Tok} {e' : TypeId} (t : Tok) {cs : Array Value} (hcs : cs = t.cells.toArray) {m c : Nat} (hown : OwnT w B v ts) (hX : v.ownBlock ≠ some X) (hXlt : X < w.heap.size) (hBX : B ≤ X) (hm : m = w.heap.size)
    (hV : SameMem (w.alloc (.cells cs e')) V) (hn : ts.length < 1000000000) (ty : TypeId) :
    ∃ g c' w', (Builtin.append_ #[23, 23] ty #[v, .slice (some ⟨m, 0, none⟩) 1 c]).run Try.prog V = .ok (.slice (some ⟨g, 0, none⟩) (ts.length + 1) c') w' ∧
      OwnT w' B (.slice (some ⟨g, 0, none⟩) (ts.length + 1) c') (ts ++ [t]) ∧ g ≠ X ∧ w'.heap[X]? = w.heap[X]? ∧ Below B w w' := by
  subst hcs hm
  obtain ⟨i, hi, hz, hsz, hby⟩ := info_parts info31
  have hVs : V.heap.size = w.heap.size + 1 := by rw [hV.1]; simp
  have hownV : V.ownsRow B 31 5 v ts.length (ts.flatMap Tok.cells) := by
    have h1 := World.ownsRow.alloc hown (.cells t.cells.toArray e')
    unfold World.ownsRow at h1 ⊢
    rw [hV.1]
    exact h1
  have hcell : ∀ j u, t.cells[j]? = some u → V.cell? ((⟨w.heap.size, 0, none⟩ : Addr).add j) = some u := by
    intro j u hj
    have e1 : (⟨w.heap.size, 0, none⟩ : Addr).add j = ⟨w.heap.size, j, none⟩ := by
      unfold Addr.add
      split
      · rename_i h; subst h; rfl
      · simp
    rw [e1, cell_of_row V w.heap.size j _ e' (0, 0) (by rw [hV.1]; exact heap_alloc_new w _)]
    simpa using hj
  obtain ⟨v', w', hrun, ho, hgr, hnil, hwhere⟩ := run_append_own_at (P := Try.prog) V B 23 ty 31 i _ 5 48 Try.underlying23 hi hz hsz hby rfl (by decide) v ts.length _ hownV ⟨w.heap.size, 0, none⟩ 1 c t.cells rfl hcell t.oneCell
    (by unfold maxLen; omega) (by omega) (by omega)
  have hform : ∃ g c', v' = .slice (some ⟨g, 0, none⟩) (ts.length + 1) c' := by
    rcases ho.2 with ⟨h1, _⟩ | ⟨g, cap, cur, hv, _⟩
    · have := hnil.1 h1
      omega
    · exact ⟨g, cap, hv⟩
  obtain ⟨g, c', rfl⟩ := hform
  refine ⟨g, c', w', hrun, ?_, ?_, ?_, ?_⟩
  · unfold OwnT
    rw [List.length_append, List.flatMap_append]
    simpa using ho
  · intro e
    subst e
    rcases hwhere with h | h
    · exact hX (by rw [← h]; rfl)
    · simp only [Value.ownBlock, Option.some.injEq] at h
      omega
  · rw [hgr.block X (by omega) (fun e => hX e.symm), hV.1, Below.heap_alloc _ _ _ (by omega)]
  · refine (hV.below ((Below.refl B w).alloc (by omega) _)).grown hgr (by omega) fun k hk => ?_
    exact (hown.lt k hk).1

theorem step_tok {ops : Array Oper} {o : Oper} {a : Act} {K : Act → World → Prop} {Q : Exit → Act → World → Prop} {E : Prop} {w V : World} {B X : Nat} {v : Value} {ts : List Tok} {e' : TypeId}
    (hgd : o.guard = none) (s x : Operand) (ho : o.op = .call { callee := .builtin .append, args := #[s, x], argTypes := #[23, 23] }) (t : Tok) {cs : Array Value} (hcs : cs = t.cells.toArray) {m c : Nat}
    (hown : OwnT w B v ts) (hX : v.ownBlock ≠ some X) (hXlt : X < w.heap.size) (hBX : B ≤ X) (hs : a.eval s = v) (hx : a.eval x = .slice (some ⟨m, 0, none⟩) 1 c) (hm : m = w.heap.size)
    (hV : SameMem (w.alloc (.cells cs e')) V) (hn : ts.length < 1000000000)
    (h : ∀ g c' w', OwnT w' B (.slice (some ⟨g, 0, none⟩) (ts.length + 1) c') (ts ++ [t]) → g ≠ X → w'.heap[X]? = w.heap[X]? → Below B w w' → K (a.put o.dst (.slice (some ⟨g, 0, none⟩) (ts.length + 1) c')) w') :
    if Region.wanted o (yielded ops a.tmps) = true then Oper.wp Try.prog o a V K Q else E := by
  have hw : Region.wanted o (yielded ops a.tmps) = true := by simp [Region.wanted, hgd]
  rw [if_pos hw]
  obtain ⟨g, c', w', hrun, h1, h2, h3, h4⟩ := tok_append (e' := e') (c := c) t hcs hown hX hXlt hBX hm hV hn o.type
  unfold Oper.wp execOp
  simp only [ho, resolve, invoke, builtin, Sem.run_bind, Sem.run_pure, Result.andThen_ok, List.map_toArray, List.map_cons, List.map_nil, hs, hx, hrun]
  exact h g c' w' h1 h2 h3 h4

/-- The scanner's block X holds the text s, the place k and the tokens ts so far. -/
structure Sc (w : World) (B X : Nat) (s : ByteArray) (k : Int) (ts : List Tok) : Prop where
  ex : ∃ A n c, w.heap[X]? = some (.cells #[.string s, .int .i64 k, .slice A n c] 34 (0, 0)) ∧ OwnT w B (.slice A n c) ts ∧ (Value.slice A n c).ownBlock ≠ some X
  le : B ≤ X

theorem heap_lt {w : World} {X : Nat} {o : Obj} (h : w.heap[X]? = some o) : X < w.heap.size := by
  rcases Nat.lt_or_ge X w.heap.size with h' | h'
  · exact h'
  · rw [Array.getElem?_eq_none h'] at h; cases h

theorem row_cell {w : World} {X : Nat} {cs : Array Value} {t : TypeId} (h : w.heap[X]? = some (.cells cs t (0, 0))) (i : Nat) : w.cell? ⟨X, i, none⟩ = cs[i]? := cell_of_row w X i cs t (0, 0) h
theorem row_frozen {w : World} {X : Nat} {cs : Array Value} {t : TypeId} (h : w.heap[X]? = some (.cells cs t (0, 0))) (i : Nat) : w.frozen? ⟨X, i, none⟩ = false := by simp [World.frozen?, h]

theorem row_set {w : World} {X : Nat} {cs : Array Value} {t : TypeId} (h : w.heap[X]? = some (.cells cs t (0, 0))) (i : Nat) (u : Value) : (w.setCell ⟨X, i, none⟩ u).heap[X]? = some (.cells (cs.setIfInBounds i u) t (0, 0)) := by
  simp [World.setCell, Array.getElem?_modify, h]

theorem OwnT.setCell {w : World} {B g n c : Nat} {ts : List Tok} (h : OwnT w B (.slice (some ⟨g, 0, none⟩) n c) ts) {p : Addr} (hp : g ≠ p.block) (u : Value) : OwnT (w.setCell p u) B (.slice (some ⟨g, 0, none⟩) n c) ts := by
  obtain ⟨h1, h2⟩ := h
  refine ⟨h1, ?_⟩
  rcases h2 with ⟨h2, _⟩ | ⟨g', cap, cur, hv, hg, hh, r⟩
  · cases h2
  · refine .inr ⟨g', cap, cur, hv, hg, ?_, r⟩
    injection hv with hv
    injection hv with hv
    injection hv with hv
    rw [Below.heap_setCell _ _ _ _ (by omega)]
    exact hh

theorem sc_done {w1 : World} {B X g n c : Nat} {s : ByteArray} {k en : Int} {v : Value} {ts : List Tok} (hh : w1.heap[X]? = some (.cells #[.string s, .int .i64 k, v] 34 (0, 0))) (ho : OwnT w1 B (.slice (some ⟨g, 0, none⟩) n c) ts) (hg : g ≠ X) (hB : B ≤ X) :
    Sc ((w1.setCell ⟨X, 2, none⟩ (.slice (some ⟨g, 0, none⟩) n c)).setCell ⟨X, 1, none⟩ (.int .i64 en)) B X s en ts := by
  refine ⟨⟨_, n, c, row_set (row_set hh 2 _) 1 _, (ho.setCell hg _).setCell hg _, fun e => hg ?_⟩, hB⟩
  simpa [Value.ownBlock] using e

set_option maxRecDepth 100000 in
set_option maxHeartbeats 1000000 in
theorem emit19 (B X : Nat) (s str : ByteArray) (k kind en n : Int) (ts : List Tok) (w : World) (h : Sc w B X s k ts) (hn : ts.length < 100000) (hk : 0 ≤ k ∧ k ≤ 1000000) (hen : 0 ≤ en ∧ en ≤ 1000000) :
    Calls Try.prog 19 #[.pointer (some ⟨X, 0, none⟩), .int .i64 kind, .int .i64 en, .int .i64 n, .string str] w
      fun e w' => e = .returned (.tuple #[]) ∧ Sc w' B X s en (ts ++ [⟨kind, k, en - k, n, str⟩]) ∧ Below B w w' := by
  obtain ⟨⟨A, m, c, hh, hown, hX⟩, hB⟩ := h
  have hXlt := heap_lt hh
  have c1 : w.cell? ⟨X, 1, none⟩ = some (.int .i64 k) := by rw [row_cell hh]; rfl
  have c2 : w.cell? ⟨X, 2, none⟩ = some (.slice A m c) := by rw [row_cell hh]; rfl
  have f1 := row_frozen hh 1
  have f2 := row_frozen hh 2
  have hk1 := hk.1
  have hk2 := hk.2
  have hen1 := hen.1
  have hen2 := hen.2
  clear hk hen
  have HH := Lib.hid hh; clear hh
  have HO := Lib.hid hown; clear hown
  have HX := Lib.hid hX; clear hX
  have hwr : IntKind.i64.wrap (en - k) = en - k := IntWalk.i64_in _ (by omega)
  go_enter Try.func19, Try.ntmps19
  go_wp2_with fail
  go_region_law (refine step_tok rfl (.tmp 14) (.tmp 29) rfl ⟨kind, k, en - k, n, str⟩ (cs := #[.int .i64 kind, .int .i64 k, .int .i64 (en - k), .int .i64 n, .string str]) (e' := 31) rfl HO.out HX.out hXlt hB (by simp [Act.eval]) (by simp [Act.eval]; rfl) rfl ⟨rfl, rfl, rfl, rfl⟩ (by omega) ?_; intro g c' w1 ho1 hg1 hh1 hb1; have HH1 := Lib.hid (hh1.trans HH.out); clear hh1; have d1 : w1.cell? ⟨X, 1, none⟩ = some (.int .i64 k) := (row_cell HH1.out _).trans rfl; have d2 : w1.cell? ⟨X, 2, none⟩ = some (.slice A m c) := (row_cell HH1.out _).trans rfl; have e1 := row_frozen HH1.out 1; have e2 := row_frozen HH1.out 2)
  all_goals
    go_wp2
    go_end0
    exact ⟨rfl, sc_done HH1.out ho1 hg1 hB, (hb1.setCell hB _).setCell hB _⟩

end Go.Proofs.Ytogepfcmmmokdaa
