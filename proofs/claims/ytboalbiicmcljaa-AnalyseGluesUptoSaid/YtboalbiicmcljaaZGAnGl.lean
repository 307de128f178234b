import Derived.Test.YtboalbiicmcljaaZGAnB
import Derived.Test.YtboalbiicmcljaaZGAnG
import Derived.Test.YtboalbiicmcljaaZGPANx21
namespace Go.Proofs.Ytboalbiicmcljaa.PAN
open Go.RowKit Go.Proofs.YtboalbiicmcljaaW.PrintWords Go.Proofs.YtboalbiicmcljaaW.PrintLast Go.Proofs.YtboalbiicmcljaaW.PrintMore Go.Proofs.YtboalbiicmcljaaH
set_option linter.unusedVariables false
set_option linter.unusedSimpArgs false
theorem findIdx_or {α : Type} (p q : α → Bool) : ∀ l : List α, l.findIdx (fun x => p x || q x) = min (l.findIdx p) (l.findIdx q)
  | [] => by simp
  | x :: r => by
    have := findIdx_or p q r
    rw [List.findIdx_cons, List.findIdx_cons, List.findIdx_cons, this]
    cases p x <;> cases q x <;> simp <;> omega
theorem atom_eq {a x : Int} (ha : w64 a) (hx : w64 x) (hl : litB x = true) : (atomI a == atomI x) = (a == x || a == -x) := by
  rw [w64_iff] at ha hx
  rw [litB_iff] at hl
  rw [Bool.eq_iff_iff, Bool.or_eq_true, beq_iff_eq, beq_iff_eq, beq_iff_eq]
  unfold atomI
  rw [if_neg hl.2]
  split
  · split <;> omega
  · split <;> split <;> omega
theorem ixN_place {ms : List Mk} {x : Int} (hm : ∀ m ∈ ms, w64 m.f0) (hx : w64 x) (hl : litB x = true) : ixN ms x = min (placeN ms x) (placeN ms (-x)) := by
  unfold ixN placeN
  rw [← findIdx_or]
  induction ms with
  | nil => rfl
  | cons m r ih =>
    rw [List.findIdx_cons, List.findIdx_cons, ih (fun m hm' => hm m (List.mem_cons_of_mem _ hm')), atom_eq (hm m List.mem_cons_self) hx hl]
theorem glueJ_ev {ms : List Mk} {c lv : List Int} {i : Nat} (hi : i < c.length) (hc : c.length ≤ 4194304) (hlv : lv.length ≤ i) (a b : Int) (t : Bool) (r : Int × Int)
    (h0 : (if t = true then b else a) < 0 → r = (0, 210))
    (h1 : ∀ n : Nat, (if t = true then b else a) = (n : Int) → n < ms.length ∧ Ev (fun k => fulcrumref21_Glue.l0 k ms c (lv ++ [(rd_T49 ms (n : Int)).f1]) ((i + 1 : Nat) : Int)) r) :
    Ev (fun k => fulcrumref21_Glue.j1 k ms c lv (i : Int) a b t) r := by
  have hw := wrapI hi (by omega)
  by_cases hn : (if t = true then b else a) < 0
  · rw [h0 hn]
    refine Ev.step (f := fun _ => some (0, 210)) (fun k => ?_) (Ev.now _)
    cases t
    · simp only [if_neg Bool.false_ne_true] at hn
      simp only [fulcrumref21_Glue.j1, Bool.false_eq_true, if_false]; rw [if_pos hn]
    · simp only [if_true] at hn
      simp only [fulcrumref21_Glue.j1, if_true]; rw [if_pos hn]
  · obtain ⟨n, hne⟩ : ∃ n : Nat, (if t = true then b else a) = (n : Int) := ⟨(if t = true then b else a).toNat, by omega⟩
    obtain ⟨h2, h3⟩ := h1 n hne
    refine Ev.step (fun k => ?_) h3
    cases t
    · simp only [if_neg Bool.false_ne_true] at hne
      subst hne
      simp only [fulcrumref21_Glue.j1, Bool.false_eq_true, if_false]; rw [if_neg (by omega), if_pos (by omega), if_pos (by omega), if_pos (by omega), hw]
    · simp only [if_true] at hne
      subst hne
      simp only [fulcrumref21_Glue.j1, if_true]; rw [if_neg (by omega), if_pos (by omega), if_pos (by omega), if_pos (by omega), hw]
theorem glue_ev {ms : List Mk} {c : List Int} (hm : ∀ m ∈ ms, w64 m.f0) (hw : ∀ x ∈ c, w64 x) (hlm : ms.length ≤ 4194304) (hc : c.length ≤ 4194304) : ∀ d i : Nat, i + d = c.length → ∀ lv : List Int, lv.length ≤ i → Ev (fun k => fulcrumref21_Glue.l0 k ms c lv (i : Int)) (glueP ms (c.drop i) (setL lv)) := by
  intro d
  induction d with
  | zero =>
    intro i h lv hlv
    rw [List.drop_eq_nil_of_le (by omega), glueP_nil]
    refine Ev.step (f := fun k => (fulcrumref21_set.f k lv).bind fun t => some ((t.length : Int), 0)) (fun k => ?_) (Ev.bind (set_all lv (by omega)) (Ev.now _))
    simp only [fulcrumref21_Glue.l0]; rw [if_neg (by omega)]
  | succ d ih =>
    intro i h lv hlv
    have hlt : i < c.length := by omega
    have hxw := hw _ (rdm hlt)
    rw [rdi_drop hlt, glueP_cons]
    obtain ⟨x, hx⟩ : ∃ x, x = rd c (i : Int) := ⟨_, rfl⟩
    rw [← hx] at hxw ⊢
    cases hl : litB x with
    | false =>
      rw [if_neg (by simp)]
      refine Ev.step (f := fun _ => some (0, 210)) (fun k => ?_) (Ev.now _)
      simp only [fulcrumref21_Glue.l0]; rw [if_pos (by omega), if_pos (by omega), ← hx, literal_all, hl]; rfl
    | true =>
      have hix := ixN_place hm hxw hl
      have hwn := wrapS hxw hl
      refine Ev.step (f := fun k => (fulcrumref21_place.f k ms x).bind fun t => (fulcrumref21_place.f k ms (-x)).bind fun u => if t < 0 then fulcrumref21_Glue.j1 k ms c lv (i : Int) t u true else if u ≥ 0 then fulcrumref21_Glue.j1 k ms c lv (i : Int) t u (decide (u < t)) else fulcrumref21_Glue.j1 k ms c lv (i : Int) t u false) (fun k => ?_) (Ev.bind (place_all ms x (by omega)) (Ev.bind (place_all ms (-x) (by omega)) ?_))
      · simp only [fulcrumref21_Glue.l0]; rw [if_pos (by omega), if_pos (by omega), ← hx, literal_all, hl, hwn]; rfl
      · have p1 := @placeI_neg ms x
        have p2 := @placeI_neg ms (-x)
        have q1 := @placeN_lt ms x
        have q2 := @placeN_lt ms (-x)
        have l1 := placeN_le ms x
        have l2 := placeN_le ms (-x)
        have key : ∀ t : Bool, (t = true ↔ (placeI ms x < 0 ∨ (placeI ms (-x) ≥ 0 ∧ placeI ms (-x) < placeI ms x))) → Ev (fun k => fulcrumref21_Glue.j1 k ms c lv (i : Int) (placeI ms x) (placeI ms (-x)) t) (if true = true ∧ ixN ms x < ms.length then glueP ms (c.drop (i + 1)) (insK (setL lv) (rd_T49 ms (ixN ms x : Nat)).f1) else (0, 210)) := by
          intro t ht
          have e : (if t = true then placeI ms (-x) else placeI ms x) = if ixN ms x < ms.length then (ixN ms x : Int) else -1 := by
            rw [hix]
            unfold placeI at ht ⊢
            cases h1 : hasM ms x <;> cases h2 : hasM ms (-x) <;> rw [h1] at q1 ht <;> rw [h2] at q2 ht <;> simp only [Bool.false_eq_true, iff_false, iff_true, if_false, if_true] at q1 q2 ht ⊢ <;> cases t <;> simp at ht ⊢ <;> first | omega | (split <;> omega)
          refine glueJ_ev hlt hc hlv _ _ t _ (fun h0 => ?_) (fun n hn => ?_)
          · rw [e] at h0
            rw [if_neg]
            rintro ⟨_, h3⟩
            rw [if_pos h3] at h0
            omega
          · rw [e] at hn
            have h3 : ixN ms x < ms.length := by
              refine Classical.byContradiction fun h4 => ?_
              rw [if_neg h4] at hn
              omega
            rw [if_pos h3] at hn
            have hn2 : n = ixN ms x := by omega
            subst hn2
            rw [if_pos ⟨rfl, h3⟩]
            refine ⟨h3, ?_⟩
            have := ih (i + 1) (by omega) (lv ++ [(rd_T49 ms (ixN ms x : Nat)).f1]) (by simp; omega)
            rwa [setL_snoc] at this
        by_cases c1 : placeI ms x < 0
        · exact Ev.congr (fun k => if_pos c1) (key true ⟨fun _ => .inl c1, fun _ => rfl⟩)
        · by_cases c2 : placeI ms (-x) ≥ 0
          · exact Ev.congr (fun k => (if_neg c1).trans (if_pos c2)) (key _ ⟨fun h => .inr ⟨c2, of_decide_eq_true h⟩, fun h => h.elim (fun q => absurd q c1) (fun q => decide_eq_true q.2)⟩)
          · exact Ev.congr (fun k => (if_neg c1).trans (if_neg c2)) (key false ⟨fun h => absurd h (by simp), fun h => h.elim (fun q => absurd q c1) (fun q => absurd q.1 c2)⟩)
theorem Glue_all {ms : List Mk} {c : List Int} (hm : ∀ m ∈ ms, w64 m.f0) (hw : ∀ x ∈ c, w64 x) (hlm : ms.length ≤ 4194304) (hc : c.length ≤ 4194304) : Ev (fun k => fulcrumref21_Glue.f k ms c) (glueP ms c []) := glue_ev hm hw hlm hc c.length 0 (by omega) [] (by simp)
theorem glues_all {ms : List Mk} (hW : Wf [] ms) (c : List Int) (hcw : ∀ x ∈ c, w64 x) (hcl : c.length ≤ 4194304) : Ev (fun k => fulcrumlaw21_AnalyseGlues.f k ms c) true := by
  have hcond : (wfB [] ms && litsW c && decide (c.length ≤ 4194304)) = true := by
    rw [wfB_of hW, decide_eq_true hcl]
    simp only [Bool.true_and, Bool.and_true]
    exact List.all_eq_true.2 (fun x hx => decide_eq_true (hcw x hx))
  refine Ev.bind (marks_all ms hW.lm) (Ev.bind (ints_all c (by omega)) ?_)
  unfold analyse_Glue.f
  simp only [hcond, if_true, Option.bind_some]
  refine Ev.bind (Glue_all (fun m hm => (hW.m m hm).1) hcw hW.lm hcl) (Ev.bind lives_all ?_)
  simpa using Ev.now true
theorem glues_walk (A0 : Option Addr) (c0 : Nat) (l0 : List (S49)) (A1 : Option Addr) (c1 : Nat) (l1 : List Int) (w : World) (hr0 : Kd.C k49 w A0 l0.length l0) (hc0 : l0.length ≤ c0) (hr1 : Kd.C (Kd.int .i64) w A1 l1.length l1) (hc1 : l1.length ≤ c1) (h : Wf [] l0) (hcw : ∀ x ∈ l1, w64 x) (hcl : l1.length ≤ 4194304) :
    Calls Try.prog 6 #[.slice A0 l0.length c0, .slice A1 l1.length c1] w fun e w' => e = .returned (.bool true) ∧ Below w.heap.size w w' := by
  obtain ⟨k, hk⟩ := (glues_all h l1 hcw hcl).rounds
  exact fulcrumlaw21_AnalyseGlues.calls k A0 c0 l0 A1 c1 l1 true w hr0 hc0 hr1 hc1 hk
end Go.Proofs.Ytboalbiicmcljaa.PAN
