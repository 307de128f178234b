import Derived.Test.YtegaaobiedfjcaaStD
import Derived.Test.YtegaaobiedfjcaaStB
namespace Go.Proofs.Ytegaaobiedfjcaa.PU
open Go.RowKit Go.Proofs.YtegaaobiedfjcaaW.PrintWords Go.Proofs.YtegaaobiedfjcaaW.PrintLast Go.Proofs.YtegaaobiedfjcaaW.PrintMore Go.Proofs.YtegaaobiedfjcaaH
set_option linter.unusedVariables false
set_option linter.unusedSimpArgs false
/-! ### two runs of unit propagation -/
theorem valL_neg (vals : List Int) {x : Int} (h : x ≠ 0) : valL vals (-x) = -valL vals x := by
  unfold valL
  by_cases h1 : x < 0
  · rw [if_neg (by omega), if_pos h1]; omega
  · rw [if_pos (by omega), if_neg h1, Int.neg_neg]
/-- Values and marks that tell the same. -/
structure TInv (N : Nat) (vals : List Int) (marks : List S48) : Prop where
  len : vals.length = N
  tv : ∀ l : Int, l ≠ 0 → (0 < valL vals l ↔ ∃ m ∈ marks, m.f0 = l)
  nd : (marks.map (fun m => m.f0)).Nodup
  rng : ∀ m ∈ marks, m.f0 ≠ 0 ∧ -(N : Int) < m.f0 ∧ m.f0 < (N : Int)
theorem TInv.mark {N : Nat} {vals : List Int} {marks : List S48} (h : TInv N vals marks) (m : S48) (hl : m.f0 ≠ 0) (h1 : -(N : Int) < m.f0) (h2 : m.f0 < (N : Int)) (h0 : valL vals m.f0 = 0) : TInv N (markV vals m.f0) (marks ++ [m]) := by
  have hlen := h.len
  refine ⟨by rw [markV_len]; exact h.len, fun x hx => ?_, ?_, fun m' hm => ?_⟩
  · rw [valL_mark (by omega) (by omega) hl hx]
    have e : (∃ m' ∈ marks ++ [m], m'.f0 = x) ↔ (∃ m' ∈ marks, m'.f0 = x) ∨ m.f0 = x := by
      simp only [List.mem_append, List.mem_singleton]
      constructor
      · rintro ⟨m', hm | hm, he⟩
        · exact .inl ⟨m', hm, he⟩
        · exact .inr (hm ▸ he)
      · rintro (⟨m', hm, he⟩ | he)
        · exact ⟨m', .inl hm, he⟩
        · exact ⟨m, .inr rfl, he⟩
    rw [e, ← h.tv x hx]
    by_cases hxl : x = m.f0
    · rw [if_pos hxl]
      exact ⟨fun _ => .inr hxl.symm, fun _ => by omega⟩
    · rw [if_neg hxl]
      by_cases hxn : x = -m.f0
      · rw [if_pos hxn]
        refine ⟨fun q => by omega, fun q => ?_⟩
        rcases q with q | q
        · rw [hxn, valL_neg _ hl, h0] at q; omega
        · exact absurd q.symm hxl
      · rw [if_neg hxn]
        exact ⟨.inl, fun q => q.elim id (fun q => absurd q.symm hxl)⟩
  · rw [List.map_append, List.nodup_append]
    refine ⟨h.nd, by simp, fun a ha b hb e => ?_⟩
    simp only [List.map_cons, List.map_nil, List.mem_singleton] at hb
    obtain ⟨m', hm', rfl⟩ := List.mem_map.1 ha
    have := (h.tv m.f0 hl).2 ⟨m', hm', by rw [e, hb]⟩
    omega
  · rcases List.mem_append.1 hm with hm | hm
    · exact h.rng m' hm
    · rw [List.mem_singleton.1 hm]; exact ⟨hl, h1, h2⟩
theorem TInv.decide {N : Nat} {vals : List Int} {marks : List S48} (h : TInv N vals marks) (x : Int) : TInv N (decU (vals, marks) x).1 (decU (vals, marks) x).2 := by
  unfold decU
  split
  · rename_i q
    dsimp only at q ⊢
    have hr := litB_iff.1 q.1
    have hlen := h.len
    exact h.mark ⟨x, lvl marks + 1, -1⟩ hr.1 (by dsimp only; omega) (by dsimp only; omega) q.2
  · exact h
theorem TInv.decides {N : Nat} : ∀ (l : List Int) (s : List Int × List S48), TInv N s.1 s.2 → TInv N (l.foldl decU s).1 (l.foldl decU s).2
  | [], s, h => h
  | x :: xs, s, h => TInv.decides xs _ (TInv.decide h x)
theorem TInv.start (N : Nat) : TInv N (List.replicate N 0) [] := by
  refine ⟨List.length_replicate .., fun l hl => ⟨fun hv => ?_, fun ⟨m, hm, _⟩ => by cases hm⟩, List.nodup_nil, fun m hm => by cases hm⟩
  exfalso
  have h0 : ∀ i : Int, rd (List.replicate N (0 : Int)) i = 0 := fun i => by
    unfold rd
    rw [List.getD_eq_getElem?_getD, List.getElem?_replicate]
    split <;> rfl
  unfold valL at hv
  rw [h0, h0] at hv
  split at hv <;> omega
/-- What follows by units. -/
inductive Der (cs : List (List Int)) (V0 : List Int) : Int → Prop
  | base (l : Int) (h : 0 < valL V0 l) : Der cs V0 l
  | step (c : List Int) (l : Int) (hc : c ∈ cs) (hl : l ∈ c) (h : ∀ x ∈ c, x ≠ l → Der cs V0 (-x)) : Der cs V0 l
theorem Der.sub {cs cs' : List (List Int)} {V0 : List Int} (h : ∀ c ∈ cs, c ∈ cs') {l : Int} (hd : Der cs V0 l) : Der cs' V0 l := by
  induction hd with
  | base l h0 => exact .base l h0
  | step c l hc hl _ ih => exact .step c l (h c hc) hl ih
structure DInv (N : Nat) (cs : List (List Int)) (V0 : List Int) (vals : List Int) (marks : List S48) : Prop where
  t : TInv N vals marks
  der : ∀ m ∈ marks, Der cs V0 m.f0
  mono : ∀ l : Int, l ≠ 0 → 0 < valL V0 l → 0 < valL vals l
def LitsIn (N : Nat) (cs : List (List Int)) : Prop := ∀ c ∈ cs, ∀ x ∈ c, x ≠ 0 ∧ -(N : Int) < x ∧ x < (N : Int)
theorem TInv.neg {N : Nat} {vals : List Int} {marks : List S48} (h : TInv N vals marks) {x : Int} (hx : x ≠ 0) : valL vals x < 0 ↔ ∃ m ∈ marks, m.f0 = -x := by
  rw [← h.tv (-x) (by omega), valL_neg vals hx]; omega
theorem DInv.start {N : Nat} {cs : List (List Int)} {V0 : List Int} {marks : List S48} (h : TInv N V0 marks) : DInv N cs V0 V0 marks :=
  ⟨h, fun m hm => .base _ ((h.tv _ (h.rng m hm).1).2 ⟨m, hm, rfl⟩), fun _ _ q => q⟩
theorem DInv.step {N : Nat} {cs : List (List Int)} {V0 : List Int} (hcs : LitsIn N cs) : Stepping cs (DInv N cs V0) := by
  intro vals marks i c l h hc hs hl
  have hm : c ∈ cs := List.mem_of_getElem? hc
  rcases scanU_says vals c l false (fun x hx => (hcs c hm x hx).1) hs with ⟨_, q, _⟩ | ⟨q, _⟩ | ⟨_, _, hlc, hl0, hall⟩
  · cases q
  · exact absurd q hl
  have hr := hcs c hm l hlc
  have ht := h.t.mark ⟨l, lvl marks, (i : Int)⟩ hr.1 hr.2.1 hr.2.2 hl0
  refine ⟨ht, fun m hmm => ?_, fun x hx hv => ?_⟩
  · rcases List.mem_append.1 hmm with hmm | hmm
    · exact h.der m hmm
    · rw [List.mem_singleton.1 hmm]
      refine .step c l hm hlc (fun x hx hn => ?_)
      obtain ⟨m', hm', he⟩ := (h.t.neg (hcs c hm x hx).1).1 (hall x hx hn)
      rw [← he]; exact h.der m' hm'
  · exact (ht.tv x hx).2 (by
      obtain ⟨m, hm1, hm2⟩ := (h.t.tv x hx).1 (h.mono x hx hv)
      exact ⟨m, List.mem_append_left _ hm1, hm2⟩)
def allFine (vals : List Int) (cs : List (List Int)) : Prop := ∀ c ∈ cs, scanU vals c 0 = (0, false)
theorem fine_says {vals : List Int} {c : List Int} (h0 : ∀ x ∈ c, x ≠ 0) (h : scanU vals c 0 = (0, false)) : (∃ x ∈ c, 0 < valL vals x) ∨ ∃ x ∈ c, ∃ y ∈ c, x ≠ y ∧ ¬ valL vals x < 0 ∧ ¬ valL vals y < 0 := by
  rcases scanU_says vals c 0 false h0 h with ⟨_, q, _⟩ | ⟨_, _, q⟩ | ⟨q, _⟩
  · cases q
  · exact q
  · exact absurd rfl q
theorem bad_says {vals : List Int} {c : List Int} (h0 : ∀ x ∈ c, x ≠ 0) (h : scanU vals c 0 = (0, true)) : ∀ x ∈ c, valL vals x < 0 := by
  rcases scanU_says vals c 0 true h0 h with ⟨_, _, q⟩ | ⟨_, q, _⟩ | ⟨q, _⟩
  · exact q
  · cases q
  · exact absurd rfl q
theorem fin_true {N : Nat} {cs : List (List Int)} {V0 vals : List Int} (hcs : LitsIn N cs) (hm : ∀ l : Int, l ≠ 0 → 0 < valL V0 l → 0 < valL vals l) (hall : allFine vals cs) {l : Int} (hd : Der cs V0 l) (hl : l ≠ 0) : 0 < valL vals l := by
  induction hd with
  | base l h0 => exact hm l hl h0
  | step c l hc hlc _ ih =>
    have h0 : ∀ x ∈ c, x ≠ 0 := fun x hx => (hcs c hc x hx).1
    have hneg : ∀ x ∈ c, x ≠ l → valL vals x < 0 := fun x hx hn => by
      have := ih x hx hn (by have := h0 x hx; omega)
      rw [valL_neg vals (h0 x hx)] at this; omega
    rcases fine_says h0 (hall c hc) with ⟨x, hx, q⟩ | ⟨x, hx, y, hy, hxy, qx, qy⟩
    · by_cases e : x = l
      · rwa [e] at q
      · have := hneg x hx e; omega
    · by_cases e : x = l
      · exact absurd (hneg y hy (by omega)) qy
      · exact absurd (hneg x hx e) qx
theorem two_marks {N : Nat} {ca cb : List (List Int)} {V0 va vb : List Int} {ma mb : List S48} (hsub : ∀ c ∈ cb, c ∈ ca) (hca : LitsIn N ca) (ha : DInv N ca V0 va ma) (hb : DInv N cb V0 vb mb) (hall : allFine va ca) : ∀ m ∈ mb, ∃ m' ∈ ma, m'.f0 = m.f0 := fun m hm =>
  (ha.t.tv _ (hb.t.rng m hm).1).1 (fin_true hca ha.mono hall ((hb.der m hm).sub hsub) (hb.t.rng m hm).1)
theorem two_bad {N : Nat} {ca cb : List (List Int)} {V0 va vb : List Int} {ma mb : List S48} (hsub : ∀ c ∈ cb, c ∈ ca) (hca : LitsIn N ca) (ha : DInv N ca V0 va ma) (hb : DInv N cb V0 vb mb) (hall : allFine va ca) {c : List Int} (hc : c ∈ cb) (hs : scanU vb c 0 = (0, true)) : False := by
  have h0 : ∀ x ∈ c, x ≠ 0 := fun x hx => (hca c (hsub c hc) x hx).1
  have hneg : ∀ x ∈ c, valL va x < 0 := fun x hx => by
    obtain ⟨m, hm, he⟩ := (hb.t.neg (h0 x hx)).1 (bad_says h0 hs x hx)
    obtain ⟨m', hm', he'⟩ := two_marks hsub hca ha hb hall m hm
    exact (ha.t.neg (h0 x hx)).2 ⟨m', hm', he'.trans he⟩
  rcases fine_says h0 (hall c (hsub c hc)) with ⟨x, hx, q⟩ | ⟨x, hx, y, hy, hxy, qx, qy⟩
  · have := hneg x hx; omega
  · exact qx (hneg x hx)
theorem two_len {N : Nat} {va vb : List Int} {ma mb : List S48} (ha : TInv N va ma) (hb : TInv N vb mb) (h1 : ∀ m ∈ mb, ∃ m' ∈ ma, m'.f0 = m.f0) (h2 : ∀ m ∈ ma, ∃ m' ∈ mb, m'.f0 = m.f0) : ma.length = mb.length := by
  have hp : (ma.map (fun m => m.f0)).Perm (mb.map (fun m => m.f0)) := by
    rw [List.perm_ext_iff_of_nodup ha.nd hb.nd]
    intro x
    simp only [List.mem_map]
    constructor
    · rintro ⟨m, hm, rfl⟩
      exact h2 m hm
    · rintro ⟨m, hm, rfl⟩
      exact h1 m hm
  simpa using hp.length_eq
theorem fine_noForce {N : Nat} {cs : List (List Int)} {vals : List Int} {marks : List S48} (hcs : LitsIn N cs) (ht : TInv N vals marks) (hall : allFine vals cs) : noForce marks cs := by
  intro c hc l hl
  have h0 : ∀ x ∈ c, x ≠ 0 := fun x hx => (hcs c hc x hx).1
  cases hf : forcesB marks c l
  · rfl
  · exfalso
    unfold forcesB openB at hf
    simp only [Bool.and_eq_true, decide_eq_true_eq, List.all_eq_true, Bool.or_eq_true, Bool.not_eq_true'] at hf
    obtain ⟨⟨_, ho⟩, hn, _⟩ := hf
    have hneg : ∀ x ∈ c, x ≠ l → valL vals x < 0 := fun x hx hxl => (ht.neg (h0 x hx)).2 (tB_iff.1 ((ho x hx).resolve_left hxl))
    rcases fine_says h0 (hall c hc) with ⟨x, hx, q⟩ | ⟨x, hx, y, hy, hxy, qx, qy⟩
    · by_cases e : x = l
      · subst e
        have := tB_iff.2 ((ht.tv x (h0 x hx)).1 q)
        rw [hn] at this; cases this
      · have := hneg x hx e; omega
    · by_cases e : x = l
      · exact absurd (hneg y hy (by omega)) qy
      · exact absurd (hneg x hx e) qx
theorem fine_noBroken {N : Nat} {cs : List (List Int)} {vals : List Int} {marks : List S48} (hcs : LitsIn N cs) (ht : TInv N vals marks) (hall : allFine vals cs) : noBroken marks cs := by
  intro c hc
  have h0 : ∀ x ∈ c, x ≠ 0 := fun x hx => (hcs c hc x hx).1
  cases hf : brkB marks c
  · rfl
  · exfalso
    unfold brkB at hf
    simp only [List.all_eq_true] at hf
    have hneg : ∀ x ∈ c, valL vals x < 0 := fun x hx => (ht.neg (h0 x hx)).2 (tB_iff.1 (hf x hx))
    rcases fine_says h0 (hall c hc) with ⟨x, hx, q⟩ | ⟨x, hx, y, hy, hxy, qx, qy⟩
    · have := hneg x hx; omega
    · exact qx (hneg x hx)
theorem bad_broken {N : Nat} {vals : List Int} {marks : List S48} (ht : TInv N vals marks) {c : List Int} (h0 : ∀ x ∈ c, x ≠ 0) (hs : scanU vals c 0 = (0, true)) : brkB marks c = true := by
  unfold brkB
  simp only [List.all_eq_true]
  exact fun x hx => tB_iff.2 ((ht.neg (h0 x hx)).1 (bad_says h0 hs x hx))
theorem litsIn_ok {N : Nat} {cs : List (List Int)} (h : LitsIn N cs) (hN : N ≤ 4611686018427387904) (h1 : cs.length ≤ 4611686018427387904) (h2 : ∀ c ∈ cs, c.length ≤ 4611686018427387904) : CsOk cs :=
  ⟨h1, h2, fun c hc x hx => by have := h c hc x hx; unfold inR; omega⟩
theorem at_f {cs : List (List Int)} {i : Nat} {c : List Int} (h : cs[i]? = some c) : fulcrumlaw20_at.f cs (i : Int) = some c := by
  have hi := (List.getElem?_eq_some_iff.1 h).1
  have e : rd_L2 cs (i : Int) = c := Option.some.inj ((rdl_get hi).symm.trans h)
  unfold fulcrumlaw20_at.f
  rw [if_neg (by omega), if_neg (by omega), if_pos (by omega), if_pos (by omega), e]

end Go.Proofs.Ytegaaobiedfjcaa.PU
