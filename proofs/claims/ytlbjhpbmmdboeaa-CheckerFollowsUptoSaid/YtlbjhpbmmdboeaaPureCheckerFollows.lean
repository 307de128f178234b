import Derived.Test.YtlbjhpbmmdboeaaQUnits3
import Derived.Test.YtlbjhpbmmdboeaaHRow
namespace Go.Proofs.Ytlbjhpbmmdboeaa.Pure
open Go.RowKit Go.Proofs.Ytlbjhpbmmdboeaa.PC Go.Proofs.YtlbjhpbmmdboeaaW.PrintWords Go.Proofs.YtlbjhpbmmdboeaaW.PrintLast

theorem follows_ev (l : List (List Int)) (c T : List Int) (hn : l.length ≤ 4194304) (hd : ∀ d ∈ l, d.length ≤ 4194304) (hc : c.length ≤ 4194304) (hT : T.length ≤ 4194304)
    (hs : (∀ d ∈ l, clauseL T d = true) → clauseL T c = true) : ∀ d i : Nat, i + d = l.length → (∀ d ∈ l.take i, clauseL T d = true) → Ev (fun k => fulcrumlaw25_CheckerFollows.l0 k l c T (i : Int)) true := by
  intro d
  induction d with
  | zero =>
    intro i h hp
    rw [List.take_of_length_le (by omega)] at hp
    have h2 := clause_all T c (by omega) (by omega)
    rw [hs hp] at h2
    refine Ev.step (fun k => ?_) (Ev.bind h2 (f := fun _ t => some t) (Ev.now true))
    simp only [fulcrumlaw25_CheckerFollows.l0]
    rw [if_neg (by omega)]
  | succ d ih =>
    intro i h hp
    have hlt : i < l.length := by omega
    have h2 := clause_all T (rd_L1 l (i : Int)) (by omega) (by have := hd _ (rd1_mem hlt); omega)
    refine Ev.step (f := fun k => (fulcrumlaw25_clause.f k T (rd_L1 l (i : Int))).bind fun t => if t = true then fulcrumlaw25_CheckerFollows.l0 k l c T ((i + 1 : Nat) : Int) else some true) (fun k => ?_) (Ev.bind h2 ?_)
    · simp only [fulcrumlaw25_CheckerFollows.l0]; rw [if_pos (by omega), if_pos (by omega), wrapS hlt (by omega)]
    · rcases Bool.eq_false_or_eq_true (clauseL T (rd_L1 l (i : Int))) with e | e
      · rw [e]
        simp only [if_true]
        refine ih (i + 1) (by omega) (fun x hx => ?_)
        rw [List.take_succ_eq_append_getElem hlt] at hx
        rcases List.mem_append.1 hx with hx | hx
        · exact hp x hx
        · have e1 : rd_L1 l (i : Int) = l[i] := by simp [rd_L1, List.getD_eq_getElem?_getD, List.getElem?_eq_getElem hlt]
          rw [List.mem_singleton.1 hx, ← e1]
          exact e
      · rw [e]
        simpa using Ev.now true

theorem CheckerFollows : ∀ (l0 : List (List Int)) (l1 : List Int) (l2 : List Int), (((l0.map (fun l => (l.map (fun _ => 1)).sum + 1)).sum) + 1) + (((l1.map (fun _ => 1)).sum) + 1) + (((l2.map (fun _ => 1)).sum) + 1) ≤ 1048576 → (∀ x ∈ l0, (fun l => ∀ x ∈ l, (fun x => (Lit.int .i64 x).wf = true) x) x) → (∀ x ∈ l1, (fun x => (Lit.int .i64 x).wf = true) x) → (∀ x ∈ l2, (fun x => (Lit.int .i64 x).wf = true) x) → ∃ k, fulcrumlaw25_CheckerFollows.f k l0 l1 l2 = some true := by
  intro l0 l1 l2 hb h0 h1 h2
  have F := fits_of (l := l0) (c := l1) (by omega) h0 h1
  obtain ⟨r, e1, e2⟩ := units_both F
  refine Ev.rounds (g := fun k => fulcrumlaw25_CheckerFollows.f k l0 l1 l2) ?_
  unfold fulcrumlaw25_CheckerFollows.f
  refine Ev.bind lives_all ?_
  simp only [if_true]
  refine Ev.bind (clauses_all l0 F.n F.d) (Ev.bind (ints_all l1 (by have := F.cn; omega)) (Ev.bind e1 ?_))
  cases r with
  | false => simpa using Ev.now true
  | true =>
    simp only [if_true]
    obtain ⟨k, hk⟩ := Ev.rounds e1
    have := F.cn
    rw [sum_one (l := l2)] at hb
    exact follows_ev l0 l1 l2 F.n F.d (by omega) (by omega) (fun h => units_sound l2 h hk) l0.length 0 (by omega) (by simp)

end Go.Proofs.Ytlbjhpbmmdboeaa.Pure
