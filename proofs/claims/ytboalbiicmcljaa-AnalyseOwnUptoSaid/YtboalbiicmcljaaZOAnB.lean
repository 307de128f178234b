import Derived.Test.YtboalbiicmcljaaZOAnA
import Derived.Test.YtboalbiicmcljaaZOPANx13
import Derived.Test.YtboalbiicmcljaaZOPANx14
namespace Go.Proofs.Ytboalbiicmcljaa.PAN
open Go.RowKit Go.Proofs.YtboalbiicmcljaaW.PrintWords Go.Proofs.YtboalbiicmcljaaW.PrintLast Go.Proofs.YtboalbiicmcljaaW.PrintMore Go.Proofs.YtboalbiicmcljaaH
set_option linter.unusedVariables false
set_option linter.unusedSimpArgs false
theorem setL_snoc (l : List Int) (x : Int) : setL (l ++ [x]) = insK (setL l) x := by unfold setL; rw [List.foldl_append]; rfl
theorem setL_len (l : List Int) : (setL l).length ≤ l.length := by
  have := foldl_insK_len l []
  unfold setL
  simpa using this
theorem set_ev (c : List Int) (hc : c.length ≤ 17592186044415) : ∀ d i : Nat, i + d = c.length → Ev (fun k => fulcrumref21_set.l0 k c (setL (c.take i)) (i : Int)) (setL c) := by
  intro d
  induction d with
  | zero =>
    intro i h
    rw [List.take_of_length_le (by omega)]
    refine Ev.step (f := fun _ => some (setL c)) (fun k => ?_) (Ev.now _)
    simp only [fulcrumref21_set.l0]; rw [if_neg (by omega)]
  | succ d ih =>
    intro i h
    have hlt : i < c.length := by omega
    have hl := setL_len (c.take i)
    rw [List.length_take] at hl
    have hi := ih (i + 1) (by omega)
    rw [take_rd hlt, setL_snoc] at hi
    refine Ev.step (f := fun k => (fulcrumref21_has.f k (setL (c.take i)) (rd c (i : Int))).bind fun t => if t = true then fulcrumref21_set.l0 k c (setL (c.take i)) ((i + 1 : Nat) : Int) else fulcrumref21_set.l0 k c (setL (c.take i) ++ [rd c (i : Int)]) ((i + 1 : Nat) : Int)) (fun k => ?_) (Ev.bind (has_all _ _ (by omega)) ?_)
    · simp only [fulcrumref21_set.l0]; rw [if_pos (by omega), if_pos (by omega), wrapI hlt (by omega)]
      congr 1
      funext t
      rw [if_pos (show (setL (c.take i)).length < 17592186044416 by omega)]
    · unfold insK at hi
      by_cases hm : rd c (i : Int) ∈ setL (c.take i)
      · rw [if_pos hm] at hi
        simpa [hm] using hi
      · rw [if_neg hm] at hi
        simpa [hm] using hi
theorem set_all (c : List Int) (hc : c.length ≤ 17592186044415) : Ev (fun k => fulcrumref21_set.f k c) (setL c) := by
  have := set_ev c hc c.length 0 (by omega)
  simpa [fulcrumref21_set.f, setL] using this
theorem without_ev (s : List Int) (x : Int) (hs : s.length ≤ 17592186044415) : ∀ d i : Nat, i + d = s.length → Ev (fun k => fulcrumref21_without.l0 k s x (delK (s.take i) x) (i : Int)) (delK s x) := by
  intro d
  induction d with
  | zero =>
    intro i h
    rw [List.take_of_length_le (by omega)]
    refine Ev.step (f := fun _ => some (delK s x)) (fun k => ?_) (Ev.now _)
    simp only [fulcrumref21_without.l0]; rw [if_neg (by omega)]
  | succ d ih =>
    intro i h
    have hlt : i < s.length := by omega
    have hl : (delK (s.take i) x).length ≤ (s.take i).length := List.length_filter_le _ _
    rw [List.length_take] at hl
    have hi := ih (i + 1) (by omega)
    have e : delK (s.take (i + 1)) x = if rd s (i : Int) = x then delK (s.take i) x else delK (s.take i) x ++ [rd s (i : Int)] := by
      rw [take_rd hlt]
      unfold delK
      rw [List.filter_append]
      by_cases he : rd s (i : Int) = x <;> simp [he]
    rw [e] at hi
    by_cases he : rd s (i : Int) = x
    · rw [if_pos he] at hi
      refine Ev.step (f := fun k => fulcrumref21_without.l0 k s x (delK (s.take i) x) ((i + 1 : Nat) : Int)) (fun k => ?_) hi
      simp only [fulcrumref21_without.l0]; rw [if_pos (by omega), if_pos (by omega), if_pos he, wrapI hlt (by omega)]
    · rw [if_neg he] at hi
      refine Ev.step (f := fun k => fulcrumref21_without.l0 k s x (delK (s.take i) x ++ [rd s (i : Int)]) ((i + 1 : Nat) : Int)) (fun k => ?_) hi
      simp only [fulcrumref21_without.l0]; rw [if_pos (by omega), if_pos (by omega), if_neg he, if_pos (show (delK (s.take i) x).length < 17592186044416 by omega), wrapI hlt (by omega)]
theorem without_all (s : List Int) (x : Int) (hs : s.length ≤ 17592186044415) : Ev (fun k => fulcrumref21_without.f k s x) (delK s x) := by
  have := without_ev s x hs s.length 0 (by omega)
  simpa [fulcrumref21_without.f, delK] using this
structure FS (ms : List Mk) (s : List Int) : Prop where
  f : AllF ms s
  w : ∀ x ∈ s, w64 x
  n : s.Nodup
theorem FS.len {ms : List Mk} {s : List Int} (h : FS ms s) : s.length ≤ ms.length := len_of_falses h.n h.f
theorem fx {ms : List Mk} {x : Int} (h : isFalseB ms x = true) : litB x = true ∧ hasM ms (-x) = true := by unfold isFalseB at h; simpa using h
theorem place_pk {ms : List Mk} {x : Int} (hlm : ms.length ≤ 4194304) (h : isFalseB ms x = true) (hw : w64 x) : Ev (fun k => fulcrumref21_place.f k ms (wrap64 (-x))) (pk ms x : Int) := by
  have := place_all ms (-x) (by omega)
  rw [wrapS hw (fx h).1]
  unfold placeI at this
  rw [if_pos (fx h).2] at this
  exact this
theorem level_all {ms : List Mk} {x : Int} (hlm : ms.length ≤ 4194304) (h : isFalseB ms x = true) (hw : w64 x) : Ev (fun k => fulcrumref21_level.f k ms x) (lev ms x) := by
  have hp := pk_lt h
  refine Ev.congr (f := fun k => (fulcrumref21_place.f k ms (wrap64 (-x))).bind fun t => if 0 ≤ t then if t < (ms.length : Int) then some (rd_T49 ms t).f1 else none else none) (fun k => rfl) (Ev.bind (place_pk hlm h hw) ?_)
  rw [if_pos (by omega), if_pos (by omega)]
  exact Ev.now _
def Best (ms : List Mk) (s : List Int) (m a : Int) : Prop := ((∀ y ∈ s, lev ms y ≠ m) ∧ a = 0) ∨ (a ∈ s ∧ lev ms a = m ∧ ∀ y ∈ s, lev ms y = m → pk ms y ≤ pk ms a)
def cntL (ms : List Mk) (s : List Int) (m : Int) : Nat := (s.filter fun x => lev ms x == m).length
theorem latest_ev {ms : List Mk} {s : List Int} {m : Int} (hlm : ms.length ≤ 4194304) (hs : FS ms s) : ∀ d i : Nat, i + d = s.length → ∀ a : Int, Best ms (s.take i) m a → ∃ b, Best ms s m b ∧ Ev (fun k => fulcrumref21_latest.l0 k ms s m a (cntL ms (s.take i) m : Int) (i : Int)) (b, (cntL ms s m : Int)) := by
  have hsl := hs.len
  intro d
  induction d with
  | zero =>
    intro i h a hb
    rw [List.take_of_length_le (by omega)] at hb ⊢
    refine ⟨a, hb, Ev.step (f := fun _ => some (a, (cntL ms s m : Int))) (fun k => ?_) (Ev.now _)⟩
    simp only [fulcrumref21_latest.l0]; rw [if_neg (by omega)]
  | succ d ih =>
    intro i h a hb
    have hlt : i < s.length := by omega
    have hxm := rdm hlt
    have htk := take_rd hlt
    obtain ⟨x, hx⟩ : ∃ x, x = rd s (i : Int) := ⟨_, rfl⟩
    rw [← hx] at hxm htk
    have hxf := hs.f x hxm
    have hxw := hs.w x hxm
    have hlev := level_all hlm hxf hxw
    have hcl : cntL ms (s.take i) m ≤ i := by
      have : cntL ms (s.take i) m ≤ (s.take i).length := List.length_filter_le _ _
      rw [List.length_take] at this
      omega
    by_cases hl : lev ms x = m
    · have hc : cntL ms (s.take (i + 1)) m = cntL ms (s.take i) m + 1 := by rw [htk]; unfold cntL; rw [List.filter_append]; simp [hl]
      have e1 : wrap64 ((cntL ms (s.take i) m : Int) + 1) = (cntL ms (s.take (i + 1)) m : Int) := by rw [hc]; unfold wrap64; omega
      by_cases ha : a = 0
      · have hb2 : Best ms (s.take (i + 1)) m x := by
          refine .inr ⟨by rw [htk]; simp, hl, fun y hy hy2 => ?_⟩
          rw [htk] at hy
          rcases List.mem_append.1 hy with hy | hy
          · rcases hb with ⟨q, _⟩ | ⟨q, _⟩
            · exact absurd hy2 (q y hy)
            · have := (fx (hs.f a (List.mem_of_mem_take q))).1
              rw [ha] at this
              exact absurd this (by decide)
          · simp at hy; rw [hy]; exact Nat.le_refl _
        obtain ⟨b, h1, h2⟩ := ih (i + 1) (by omega) x hb2
        refine ⟨b, h1, Ev.step (f := fun k => (fulcrumref21_level.f k ms x).bind fun t => if t = m then fulcrumref21_latest.l0 k ms s m x (cntL ms (s.take (i + 1)) m : Int) ((i + 1 : Nat) : Int) else fulcrumref21_latest.l0 k ms s m a (cntL ms (s.take i) m : Int) ((i + 1 : Nat) : Int)) (fun k => ?_) (Ev.bind hlev (by simp only [hl, if_true]; exact h2))⟩
        simp only [fulcrumref21_latest.l0]; rw [if_pos (by omega), if_pos (by omega), ← hx, wrapI hlt (by omega)]
        simp only [ha, if_true, e1]
      · have hq : a ∈ s.take i ∧ lev ms a = m ∧ ∀ y ∈ s.take i, lev ms y = m → pk ms y ≤ pk ms a := by
          rcases hb with ⟨_, q⟩ | q
          · exact absurd q ha
          · exact q
        have ham := List.mem_of_mem_take hq.1
        have haf := hs.f a ham
        have haw := hs.w a ham
        by_cases hp : (pk ms x : Int) > (pk ms a : Int)
        · have hb2 : Best ms (s.take (i + 1)) m x := by
            refine .inr ⟨by rw [htk]; simp, hl, fun y hy hy2 => ?_⟩
            rw [htk] at hy
            rcases List.mem_append.1 hy with hy | hy
            · have := hq.2.2 y hy hy2; omega
            · simp at hy; rw [hy]; exact Nat.le_refl _
          obtain ⟨b, h1, h2⟩ := ih (i + 1) (by omega) x hb2
          refine ⟨b, h1, Ev.step (f := fun k => (fulcrumref21_level.f k ms x).bind fun t => if t = m then (fulcrumref21_place.f k ms (wrap64 (-x))).bind fun t1 => (fulcrumref21_place.f k ms (wrap64 (-a))).bind fun t2 => if t1 > t2 then fulcrumref21_latest.l0 k ms s m x (cntL ms (s.take (i + 1)) m : Int) ((i + 1 : Nat) : Int) else fulcrumref21_latest.l0 k ms s m a (cntL ms (s.take (i + 1)) m : Int) ((i + 1 : Nat) : Int) else fulcrumref21_latest.l0 k ms s m a (cntL ms (s.take i) m : Int) ((i + 1 : Nat) : Int)) (fun k => ?_) (Ev.bind hlev (by simp only [hl, if_true]; exact Ev.bind (place_pk hlm hxf hxw) (Ev.bind (place_pk hlm haf haw) (by simp only [hp, if_true]; exact h2)))) ⟩
          simp only [fulcrumref21_latest.l0]; rw [if_pos (by omega), if_pos (by omega), ← hx, wrapI hlt (by omega)]
          simp only [ha, if_false, e1]
        · have hb2 : Best ms (s.take (i + 1)) m a := by
            refine .inr ⟨by rw [htk]; simp [hq.1], hq.2.1, fun y hy hy2 => ?_⟩
            rw [htk] at hy
            rcases List.mem_append.1 hy with hy | hy
            · exact hq.2.2 y hy hy2
            · simp at hy; rw [hy]; omega
          obtain ⟨b, h1, h2⟩ := ih (i + 1) (by omega) a hb2
          refine ⟨b, h1, Ev.step (f := fun k => (fulcrumref21_level.f k ms x).bind fun t => if t = m then (fulcrumref21_place.f k ms (wrap64 (-x))).bind fun t1 => (fulcrumref21_place.f k ms (wrap64 (-a))).bind fun t2 => if t1 > t2 then fulcrumref21_latest.l0 k ms s m x (cntL ms (s.take (i + 1)) m : Int) ((i + 1 : Nat) : Int) else fulcrumref21_latest.l0 k ms s m a (cntL ms (s.take (i + 1)) m : Int) ((i + 1 : Nat) : Int) else fulcrumref21_latest.l0 k ms s m a (cntL ms (s.take i) m : Int) ((i + 1 : Nat) : Int)) (fun k => ?_) (Ev.bind hlev (by simp only [hl, if_true]; exact Ev.bind (place_pk hlm hxf hxw) (Ev.bind (place_pk hlm haf haw) (by simp only [hp, if_false]; exact h2)))) ⟩
          simp only [fulcrumref21_latest.l0]; rw [if_pos (by omega), if_pos (by omega), ← hx, wrapI hlt (by omega)]
          simp only [ha, if_false, e1]
    · have hc : cntL ms (s.take (i + 1)) m = cntL ms (s.take i) m := by rw [htk]; unfold cntL; rw [List.filter_append]; simp [hl]
      have hb2 : Best ms (s.take (i + 1)) m a := by
        rw [htk]
        rcases hb with ⟨q1, q2⟩ | ⟨q1, q2, q3⟩
        · refine .inl ⟨fun y hy => ?_, q2⟩
          rcases List.mem_append.1 hy with hy | hy
          · exact q1 y hy
          · simp at hy; rw [hy]; exact hl
        · refine .inr ⟨by simp [q1], q2, fun y hy hy2 => ?_⟩
          rcases List.mem_append.1 hy with hy | hy
          · exact q3 y hy hy2
          · simp at hy; rw [hy] at hy2; exact absurd hy2 hl
      obtain ⟨b, h1, h2⟩ := ih (i + 1) (by omega) a hb2
      rw [hc] at h2
      refine ⟨b, h1, Ev.step (f := fun k => (fulcrumref21_level.f k ms x).bind fun t => if t = m then (if a = 0 then fulcrumref21_latest.l0 k ms s m x (wrap64 ((cntL ms (s.take i) m : Int) + 1)) ((i + 1 : Nat) : Int) else (fulcrumref21_place.f k ms (wrap64 (-x))).bind fun t1 => (fulcrumref21_place.f k ms (wrap64 (-a))).bind fun t2 => if t1 > t2 then fulcrumref21_latest.l0 k ms s m x (wrap64 ((cntL ms (s.take i) m : Int) + 1)) ((i + 1 : Nat) : Int) else fulcrumref21_latest.l0 k ms s m a (wrap64 ((cntL ms (s.take i) m : Int) + 1)) ((i + 1 : Nat) : Int)) else fulcrumref21_latest.l0 k ms s m a (cntL ms (s.take i) m : Int) ((i + 1 : Nat) : Int)) (fun k => ?_) (Ev.bind hlev (by simp only [hl, if_false]; exact h2))⟩
      simp only [fulcrumref21_latest.l0]; rw [if_pos (by omega), if_pos (by omega), ← hx, wrapI hlt (by omega)]
theorem atL_len (ms : List Mk) (s : List Int) (m : Int) : (atL ms s m).length = cntL ms s m := ((fallL_perm ms s).filter _).length_eq
theorem Best.head {ms : List Mk} {s : List Int} {m b : Int} (hf : AllF ms s) (h : Best ms s m b) : b = (atL ms s m).headD 0 := by
  have hmem : ∀ y, y ∈ atL ms s m ↔ y ∈ s ∧ lev ms y = m := fun y => by unfold atL; rw [List.mem_filter, (fallL_perm ms s).mem_iff]; simp
  cases ha : atL ms s m with
  | nil =>
    rcases h with ⟨_, q⟩ | ⟨q1, q2, _⟩
    · simpa using q
    · have := (hmem b).2 ⟨q1, q2⟩; rw [ha] at this; cases this
  | cons a r =>
    have h1 := (hmem a).1 (by rw [ha]; simp)
    rcases h with ⟨q, _⟩ | ⟨q1, q2, q3⟩
    · exact absurd h1.2 (q a h1.1)
    · have hsort : (atL ms s m).Pairwise (fun a b => pk ms b ≤ pk ms a) := (fallL_sorted ms s).sublist List.filter_sublist
      rw [ha] at hsort
      have h2 := q3 a h1.1 h1.2
      have h3 : pk ms b ≤ pk ms a := by
        have hb := (hmem b).2 ⟨q1, q2⟩
        rw [ha] at hb
        rcases List.mem_cons.1 hb with hb | hb
        · rw [hb]; exact Nat.le_refl _
        · exact (List.pairwise_cons.1 hsort).1 b hb
      show b = a
      exact pk_inj (hf b q1) (hf a h1.1) (Nat.le_antisymm h3 h2)
theorem latest_all {ms : List Mk} {s : List Int} (m : Int) (hlm : ms.length ≤ 4194304) (hs : FS ms s) : Ev (fun k => fulcrumref21_latest.f k ms s m) ((atL ms s m).headD 0, ((atL ms s m).length : Int)) := by
  obtain ⟨b, h1, h2⟩ := latest_ev (m := m) hlm hs s.length 0 (by omega) 0 (.inl ⟨by simp, rfl⟩)
  rw [atL_len, ← h1.head hs.f]
  simpa [fulcrumref21_latest.f, cntL] using h2
theorem FS.resF {cs : List (List Int)} {ms : List Mk} (hW : Wf cs ms) (hv : VT cs ms) {s : List Int} (hs : FS ms s) {x : Int} (hxf : isFalseB ms x = true) (hr : rsn ms x ≠ -1) : FS ms (resL cs ms s x) := by
  obtain ⟨h0, h1, h2⟩ := hv.new hxf hr
  refine ⟨fun y hy => ?_, fun y hy => ?_, nodup_resL hs.n x⟩
  · rcases mem_resL.1 hy with ⟨q, _⟩ | q
    · exact hs.f y q
    · exact (h2 y q).1
  · rcases mem_resL.1 hy with ⟨q, _⟩ | q
    · exact hs.w y q
    · unfold newL at q
      exact hW.c _ (rdC_mem h0 h1) y (List.mem_filter.1 q).1
theorem FS.res {cs : List (List Int)} {ms : List Mk} (hW : Wf cs ms) (hv : VT cs ms) {s : List Int} (hs : FS ms s) {x : Int} (hx : x ∈ s) (hr : rsn ms x ≠ -1) : FS ms (resL cs ms s x) := by
  refine ⟨hs.f.res hv hx hr, fun y hy => ?_, nodup_resL hs.n x⟩
  rcases mem_resL.1 hy with ⟨q, _⟩ | q
  · exact hs.w y q
  · obtain ⟨h0, h1, _⟩ := hv.new (hs.f x hx) hr
    unfold newL at q
    exact hW.c _ (rdC_mem h0 h1) y (List.mem_filter.1 q).1
theorem foldl_set (a : List Int) : ∀ s : List Int, s.Nodup → (∀ x ∈ a, x ∉ s) → a.Nodup → a.foldl insK s = s ++ a := by
  induction a with
  | nil => intro s _ _ _; simp
  | cons x r ih =>
    intro s hs hd hn
    have hx := hd x (by simp)
    rw [List.foldl_cons, show insK s x = s ++ [x] by unfold insK; rw [if_neg hx]]
    rw [ih (s ++ [x])]
    · simp
    · rw [List.nodup_append]; exact ⟨hs, by simp, fun a ha b hb => by simp at hb; rw [hb]; intro q; exact hx (q ▸ ha)⟩
    · intro y hy
      rw [List.mem_append]
      rintro (q | q)
      · exact hd y (by simp [hy]) q
      · simp at q; rw [q] at hy; exact (List.nodup_cons.1 hn).1 hy
    · exact (List.nodup_cons.1 hn).2
theorem setL_nodup {a : List Int} (h : a.Nodup) : setL a = a := by
  unfold setL
  rw [foldl_set a [] List.nodup_nil (by simp) h]
  simp
theorem resL_set {cs : List (List Int)} {ms : List Mk} {s : List Int} (hn : s.Nodup) (x : Int) : setL (delK s x ++ newL cs ms x) = resL cs ms s x := by
  unfold resL
  rw [setL, List.foldl_append]
  congr 1
  exact setL_nodup (hn.filter _)
theorem resolved_ev (cs : List (List Int)) (x r : Int) (hx : wrap64 (-x) = -x) (h0 : 0 ≤ r) (h1 : r < cs.length) (hc : (rdC cs r).length ≤ 4194304) (p : List Int) (hp : p.length ≤ 1099511627776) : ∀ d i : Nat, i + d = (rdC cs r).length →
    Ev (fun k => fulcrumref21_resolved.l0 k cs x r (p ++ ((rdC cs r).take i).filter fun y => y ≠ -x) (i : Int)) (setL (p ++ (rdC cs r).filter fun y => y ≠ -x), r) := by
  intro d
  induction d with
  | zero =>
    intro i h
    rw [List.take_of_length_le (by omega)]
    have hl : (p ++ (rdC cs r).filter fun y => y ≠ -x).length ≤ 17592186044415 := by
      have : ((rdC cs r).filter fun y => y ≠ -x).length ≤ (rdC cs r).length := List.length_filter_le _ _
      rw [List.length_append]; omega
    refine Ev.step (f := fun k => (fulcrumref21_set.f k (p ++ (rdC cs r).filter fun y => y ≠ -x)).bind fun t => some (t, r)) (fun k => ?_) (Ev.bind (set_all _ hl) (Ev.now _))
    simp only [fulcrumref21_resolved.l0]; rw [if_pos h0, if_pos h1, if_neg (by rw [rdL_C]; omega)]
  | succ d ih =>
    intro i h
    have hlt : i < (rdC cs r).length := by omega
    have hi := ih (i + 1) (by omega)
    obtain ⟨c, hce⟩ : ∃ c, c = rdC cs r := ⟨_, rfl⟩
    rw [← hce] at hc h hlt hi ⊢
    have hl : ((c.take i).filter fun y => y ≠ -x).length ≤ i := by
      have : ((c.take i).filter fun y => y ≠ -x).length ≤ (c.take i).length := List.length_filter_le _ _
      rw [List.length_take] at this; omega
    have e : p ++ (c.take (i + 1)).filter (fun y => y ≠ -x) = if rd c (i : Int) = -x then p ++ (c.take i).filter (fun y => y ≠ -x) else p ++ (c.take i).filter (fun y => y ≠ -x) ++ [rd c (i : Int)] := by
      rw [take_rd hlt, List.filter_append]
      by_cases he : rd c (i : Int) = -x <;> simp [he]
    rw [e] at hi
    by_cases he : rd c (i : Int) = -x
    · rw [if_pos he] at hi
      refine Ev.step (f := fun k => fulcrumref21_resolved.l0 k cs x r (p ++ (c.take i).filter fun y => y ≠ -x) ((i + 1 : Nat) : Int)) (fun k => ?_) hi
      simp only [fulcrumref21_resolved.l0]; rw [if_pos h0, if_pos h1, rdL_C, ← hce, if_pos (by omega), if_pos (by omega), hx, if_pos he, wrapI hlt (by omega)]
    · rw [if_neg he] at hi
      refine Ev.step (f := fun k => fulcrumref21_resolved.l0 k cs x r (p ++ (c.take i).filter (fun y => y ≠ -x) ++ [rd c (i : Int)]) ((i + 1 : Nat) : Int)) (fun k => ?_) hi
      simp only [fulcrumref21_resolved.l0]; rw [if_pos h0, if_pos h1, rdL_C, ← hce, if_pos (by omega), if_pos (by omega), hx, if_neg he, if_pos (by rw [List.length_append]; omega), wrapI hlt (by omega)]
theorem resolved_allF {cs : List (List Int)} {ms : List Mk} (hW : Wf cs ms) (hv : VT cs ms) {s : List Int} (hs : FS ms s) {x : Int} (hxf : isFalseB ms x = true) (hxw : w64 x) (hr : rsn ms x ≠ -1) : Ev (fun k => fulcrumref21_resolved.f k cs ms s x) (resL cs ms s x, rsn ms x) := by
  have hlm := hW.lm
  have hsl := hs.len
  obtain ⟨h0, h1, _⟩ := hv.new hxf hr
  have hp := pk_lt hxf
  have hwr := wrapS hxw (fx hxf).1
  have c1 : (0 : Int) ≤ (pk ms x : Int) := by omega
  have c2 : (pk ms x : Int) < (ms.length : Int) := by omega
  refine Ev.congr (f := fun k => (fulcrumref21_place.f k ms (wrap64 (-x))).bind fun t => if 0 ≤ t then if t < (ms.length : Int) then (fulcrumref21_without.f k s x).bind fun u => fulcrumref21_resolved.l0 k cs x (rd_T49 ms t).f2 u 0 else none else none) (fun k => rfl) (Ev.bind (place_pk hlm hxf hxw) ?_)
  simp only [if_pos c1, if_pos c2]
  refine Ev.bind (without_all s x (by omega)) ?_
  have hdl : (delK s x).length ≤ s.length := List.length_filter_le _ _
  have hm := resolved_ev cs x (rsn ms x) hwr h0 h1 (hW.lcl _ (rdC_mem h0 h1)) (delK s x) (by omega) (rdC cs (rsn ms x)).length 0 (by omega)
  have e : setL (delK s x ++ (rdC cs (rsn ms x)).filter fun y => y ≠ -x) = resL cs ms s x := resL_set hs.n x
  rw [e] at hm
  simp only [List.take_zero, List.filter_nil, List.append_nil] at hm
  exact hm
theorem resolved_all {cs : List (List Int)} {ms : List Mk} (hW : Wf cs ms) (hv : VT cs ms) {s : List Int} (hs : FS ms s) {x : Int} (hx : x ∈ s) (hr : rsn ms x ≠ -1) : Ev (fun k => fulcrumref21_resolved.f k cs ms s x) (resL cs ms s x, rsn ms x) := resolved_allF hW hv hs (hs.f x hx) (hs.w x hx) hr
theorem zeroF_atL (ms : List Mk) (s : List Int) : zeroF ms s = (atL ms s 0).head? := by unfold zeroF atL; rw [List.head?_filter]
theorem cleanedL_ev {cs : List (List Int)} {ms : List Mk} (hW : Wf cs ms) (hv : VT cs ms) : ∀ (n : Nat) (s ch : List Int), FS ms s → (∀ y ∈ s, lev ms y = 0 → pk ms y < n) → ch.length + n ≤ 1099511627776 → Ev (fun k => fulcrumref21_cleaned.l1 k cs ms s ch) (cleanL cs ms n s ch) := by
  have hlm := hW.lm
  intro n
  induction n with
  | zero =>
    intro s ch hs hb hc
    have h1 := latest_all 0 hlm hs
    have ha : atL ms s 0 = [] := by
      unfold atL
      rw [List.filter_eq_nil_iff]
      intro y hy hy0
      have := hb y ((fallL_perm ms s).mem_iff.1 hy) (by simpa using hy0)
      omega
    rw [ha] at h1
    refine Ev.step (f := fun k => (fulcrumref21_latest.f k ms s 0).bind fun t => if t.2 = 0 then some (s, ch) else (fulcrumref21_resolved.f k cs ms s t.1).bind fun u => if ch.length < 17592186044416 then fulcrumref21_cleaned.l1 k cs ms u.1 (ch ++ [u.2]) else none) (fun k => rfl) (Ev.bind h1 ?_)
    simpa [cleanL] using Ev.now (s, ch)
  | succ n ih =>
    intro s ch hs hb hc
    have h1 := latest_all 0 hlm hs
    refine Ev.step (f := fun k => (fulcrumref21_latest.f k ms s 0).bind fun t => if t.2 = 0 then some (s, ch) else (fulcrumref21_resolved.f k cs ms s t.1).bind fun u => if ch.length < 17592186044416 then fulcrumref21_cleaned.l1 k cs ms u.1 (ch ++ [u.2]) else none) (fun k => rfl) (Ev.bind h1 ?_)
    rw [cleanL, zeroF_atL]
    cases ha : atL ms s 0 with
    | nil => simpa using Ev.now (s, ch)
    | cons x r =>
      have hz : zeroF ms s = some x := by rw [zeroF_atL, ha]; rfl
      obtain ⟨hx, hx0, hxm⟩ := zeroF_some hz
      have hr := hv.zero (hs.f x hx) hx0
      have hcb := clean_bound hv hs.f hz
      have hi := ih (resL cs ms s x) (ch ++ [rsn ms x]) (hs.res hW hv hx hr) (fun y hy hy0 => by have := hcb y hy hy0; have := hb x hx hx0; omega) (by rw [List.length_append, List.length_singleton]; omega)
      have hlt : ch.length < 17592186044416 := by omega
      have c1 : ¬ ((r.length + 1 : Nat) : Int) = 0 := by omega
      simp only [List.length_cons, List.headD_cons, List.head?_cons, if_neg c1]
      refine Ev.bind (resolved_all hW hv hs hx hr) ?_
      simp only [hlt, if_true]
      exact hi
theorem cleaned_ev {cs : List (List Int)} {ms : List Mk} (hW : Wf cs ms) (hv : VT cs ms) (s ch : List Int) (hs : FS ms s) (hc : ch.length + ms.length ≤ 1099511627776) : ∀ d i : Nat, i + d = ch.length → Ev (fun k => fulcrumref21_cleaned.l0 k cs ms s ch (ch.take i) (i : Int)) (cleanL cs ms ms.length s ch) := by
  intro d
  induction d with
  | zero =>
    intro i h
    rw [List.take_of_length_le (by omega)]
    refine Ev.step (f := fun k => fulcrumref21_cleaned.l1 k cs ms s ch) (fun k => ?_) (cleanedL_ev hW hv ms.length s ch hs (fun y hy _ => pk_lt (hs.f y hy)) hc)
    simp only [fulcrumref21_cleaned.l0]; rw [if_neg (by omega)]
  | succ d ih =>
    intro i h
    have hlt : i < ch.length := by omega
    have hi := ih (i + 1) (by omega)
    rw [take_rd hlt] at hi
    refine Ev.step (f := fun k => fulcrumref21_cleaned.l0 k cs ms s ch (ch.take i ++ [rd ch (i : Int)]) ((i + 1 : Nat) : Int)) (fun k => ?_) hi
    simp only [fulcrumref21_cleaned.l0]; rw [if_pos (by omega), if_pos (by omega), if_pos (by rw [List.length_take]; omega), wrapI hlt (by omega)]
theorem cleaned_all {cs : List (List Int)} {ms : List Mk} (hW : Wf cs ms) (hv : VT cs ms) (s ch : List Int) (hs : FS ms s) (hc : ch.length + ms.length ≤ 1099511627776) : Ev (fun k => fulcrumref21_cleaned.f k cs ms s ch) (cleanL cs ms ms.length s ch) := by
  have := cleaned_ev hW hv s ch hs hc ch.length 0 (by omega)
  simpa [fulcrumref21_cleaned.f] using this
theorem fall_step {ms : List Mk} {s : List Int} (hs : FS ms s) {a : Int} (ha : a ∈ s) (hm : ∀ y ∈ s, pk ms y ≤ pk ms a) : fallL ms s = a :: fallL ms (delK s a) := by
  have hp : (a :: delK s a).Perm s := by
    rw [List.perm_ext_iff_of_nodup (List.nodup_cons.2 ⟨fun q => (mem_delK.1 q).2 rfl, show (delK s a).Nodup from hs.n.filter _⟩) hs.n]
    intro y
    rw [List.mem_cons, mem_delK]
    constructor
    · rintro (rfl | h)
      · exact ha
      · exact h.1
    · intro h
      by_cases e : y = a
      · exact .inl e
      · exact .inr ⟨h, e⟩
  refine fall_unique ?_ (fun x hx => hs.f x ((fallL_perm ms s).mem_iff.1 hx)) (fallL_sorted ms s) (List.pairwise_cons.2 ⟨fun y hy => ?_, fallL_sorted ms _⟩)
  · exact (fallL_perm ms s).trans (hp.symm.trans ((fallL_perm ms (delK s a)).symm.cons a))
  · exact hm y (mem_delK.1 ((fallL_perm ms _).mem_iff.1 hy)).1
theorem FS.del {ms : List Mk} {s : List Int} (h : FS ms s) (a : Int) : FS ms (delK s a) := ⟨fun x hx => h.f x (mem_delK.1 hx).1, fun x hx => h.w x (mem_delK.1 hx).1, h.n.filter _⟩
theorem fallingI_ev {ms : List Mk} (hlm : ms.length ≤ 4194304) (n : Nat) (ihn : ∀ s, s.length = n → FS ms s → ∀ out : List Int, out.length + n ≤ 1099511627776 → Ev (fun k => fulcrumref21_falling.l0 k ms out s) (out ++ fallL ms s)) (s : List Int) (hl : s.length = n + 1) (hs : FS ms s) (out : List Int) (ho : out.length + (n + 1) ≤ 1099511627776) :
    ∀ d i : Nat, i + d = s.length → ∀ a ∈ s, (∀ y ∈ s.take i, pk ms y ≤ pk ms a) → Ev (fun k => fulcrumref21_falling.l1 k ms out s a (i : Int)) (out ++ fallL ms s) := by
  have hsl := hs.len
  intro d
  induction d with
  | zero =>
    intro i h a ha hm
    rw [List.take_of_length_le (by omega)] at hm
    have hdl : (delK s a).length = n := by
      have := length_delK hs.n a
      rw [if_pos ha] at this
      omega
    have hi := ihn (delK s a) hdl (hs.del a) (out ++ [a]) (by rw [List.length_append, List.length_singleton]; omega)
    rw [fall_step hs ha hm]
    refine Ev.step (f := fun k => (fulcrumref21_without.f k s a).bind fun t => fulcrumref21_falling.l0 k ms (out ++ [a]) t) (fun k => ?_) (Ev.bind (without_all s a (by omega)) (by simpa using hi))
    simp only [fulcrumref21_falling.l1]; rw [if_neg (by omega), if_pos (by omega)]
  | succ d ih =>
    intro i h a ha hm
    have hlt : i < s.length := by omega
    have hxm := rdm hlt
    have htk := take_rd hlt
    obtain ⟨x, hx⟩ : ∃ x, x = rd s (i : Int) := ⟨_, rfl⟩
    rw [← hx] at hxm htk
    refine Ev.step (f := fun k => (fulcrumref21_place.f k ms (wrap64 (-x))).bind fun t1 => (fulcrumref21_place.f k ms (wrap64 (-a))).bind fun t2 => if t1 > t2 then fulcrumref21_falling.l1 k ms out s x ((i + 1 : Nat) : Int) else fulcrumref21_falling.l1 k ms out s a ((i + 1 : Nat) : Int)) (fun k => ?_) (Ev.bind (place_pk hlm (hs.f x hxm) (hs.w x hxm)) (Ev.bind (place_pk hlm (hs.f a ha) (hs.w a ha)) ?_))
    · simp only [fulcrumref21_falling.l1]; rw [if_pos (by omega), if_pos (by omega), ← hx, wrapI hlt (by omega)]
    · by_cases hp : (pk ms x : Int) > (pk ms a : Int)
      · simp only [hp, if_true]
        refine ih (i + 1) (by omega) x hxm (fun y hy => ?_)
        rw [htk] at hy
        rcases List.mem_append.1 hy with hy | hy
        · have := hm y hy; omega
        · simp at hy; rw [hy]; exact Nat.le_refl _
      · simp only [hp, if_false]
        refine ih (i + 1) (by omega) a ha (fun y hy => ?_)
        rw [htk] at hy
        rcases List.mem_append.1 hy with hy | hy
        · exact hm y hy
        · simp at hy; rw [hy]; omega
theorem falling_ev {ms : List Mk} (hlm : ms.length ≤ 4194304) : ∀ n : Nat, ∀ s, s.length = n → FS ms s → ∀ out : List Int, out.length + n ≤ 1099511627776 → Ev (fun k => fulcrumref21_falling.l0 k ms out s) (out ++ fallL ms s) := by
  intro n
  induction n with
  | zero =>
    intro s hl hs out ho
    obtain rfl : s = [] := List.eq_nil_of_length_eq_zero hl
    refine Ev.step (f := fun _ => some out) (fun k => ?_) (by simpa [fallL] using Ev.now out)
    simp only [fulcrumref21_falling.l0]; rw [if_neg (by simp)]
  | succ n ih =>
    intro s hl hs out ho
    have h0 : (0 : Int) < (s.length : Int) := by omega
    have h0m : rd s (((0 : Nat) : Int)) ∈ s := rdm (by omega)
    have hi := fallingI_ev hlm n ih s hl hs out ho n 1 (by omega) (rd s ((0 : Nat) : Int)) h0m (fun y hy => by
      rw [take_rd (i := 0) (by omega)] at hy
      simp at hy
      rw [hy]; exact Nat.le_refl _)
    refine Ev.step (f := fun k => fulcrumref21_falling.l1 k ms out s (rd s ((0 : Nat) : Int)) ((1 : Nat) : Int)) (fun k => ?_) hi
    simp only [fulcrumref21_falling.l0]; rw [if_pos (by omega), if_pos h0]; rfl
theorem falling_all {ms : List Mk} (hlm : ms.length ≤ 4194304) {s : List Int} (hs : FS ms s) : Ev (fun k => fulcrumref21_falling.f k ms s) (fallL ms s) := by
  have hsl := hs.len
  refine Ev.congr (f := fun k => (fulcrumref21_set.f k s).bind fun t => fulcrumref21_falling.l0 k ms [] t) (fun k => rfl) (Ev.bind (set_all s (by omega)) ?_)
  rw [setL_nodup hs.n]
  have := falling_ev hlm s.length s rfl hs [] (by simp; omega)
  simpa using this
theorem restL_del {ms : List Mk} {s : List Int} (hs : FS ms s) (a : Int) : fallL ms (delK s a) = restL ms s a := by
  refine fall_unique ?_ (fun x hx => (hs.del a).f x ((fallL_perm ms _).mem_iff.1 hx)) (fallL_sorted ms _) ((fallL_sorted ms s).sublist List.filter_sublist)
  exact (fallL_perm ms (delK s a)).trans ((fallL_perm ms s).filter _).symm
theorem FS.fall {ms : List Mk} {s : List Int} (hs : FS ms s) : FS ms (fallL ms s) := ⟨fun x hx => hs.f x ((fallL_perm ms s).mem_iff.1 hx), fun x hx => hs.w x ((fallL_perm ms s).mem_iff.1 hx), (fallL_perm ms s).nodup_iff.2 hs.n⟩
theorem learnt_ev {ms : List Mk} (hlm : ms.length ≤ 4194304) {l : List Int} (hl : FS ms l) (a : Int) (ch : List Int) : ∀ d i : Nat, i + d = l.length → ∀ b : Int, 0 ≤ b → Ev (fun k => fulcrumref21_learnt.l0 k ms l (i : Int) (a :: l.take i) b ch) (a :: l, max b (mostL ms (l.drop i)), ch) := by
  have hll := hl.len
  intro d
  induction d with
  | zero =>
    intro i h b hb
    rw [List.take_of_length_le (by omega), List.drop_eq_nil_of_le (by omega)]
    have e : max b (mostL ms []) = b := by unfold mostL; omega
    rw [e]
    refine Ev.step (f := fun _ => some (a :: l, b, ch)) (fun k => ?_) (Ev.now _)
    simp only [fulcrumref21_learnt.l0]; rw [if_neg (by omega)]
  | succ d ih =>
    intro i h b hb
    have hlt : i < l.length := by omega
    have hxm := rdm hlt
    have htk := take_rd hlt
    rw [rdi_drop hlt]
    obtain ⟨x, hx⟩ : ∃ x, x = rd l (i : Int) := ⟨_, rfl⟩
    rw [← hx] at hxm htk ⊢
    have hlev := level_all hlm (hl.f x hxm) (hl.w x hxm)
    have c1 : (a :: l.take i).length < 17592186044416 := by rw [List.length_cons, List.length_take]; omega
    have e0 : a :: l.take i ++ [x] = a :: l.take (i + 1) := by rw [htk]; rfl
    refine Ev.step (f := fun k => (fulcrumref21_level.f k ms x).bind fun t => if t > b then (fulcrumref21_level.f k ms x).bind fun u => fulcrumref21_learnt.l0 k ms l ((i + 1 : Nat) : Int) (a :: l.take (i + 1)) u ch else fulcrumref21_learnt.l0 k ms l ((i + 1 : Nat) : Int) (a :: l.take (i + 1)) b ch) (fun k => ?_) (Ev.bind hlev ?_)
    · simp only [fulcrumref21_learnt.l0]
      rw [if_pos (by omega), if_pos (by omega), if_pos c1, ← hx, wrapI hlt (by omega), Option.bind_some, e0]
    · by_cases hb2 : lev ms x > b
      · simp only [hb2, if_true]
        refine Ev.bind hlev ?_
        have := ih (i + 1) (by omega) (lev ms x) (by omega)
        have e : max (lev ms x) (mostL ms (l.drop (i + 1))) = max b (mostL ms (x :: l.drop (i + 1))) := by rw [mostL]; omega
        rw [e] at this
        exact this
      · simp only [hb2, if_false]
        have := ih (i + 1) (by omega) b hb
        have e : max b (mostL ms (l.drop (i + 1))) = max b (mostL ms (x :: l.drop (i + 1))) := by rw [mostL]; omega
        rw [e] at this
        exact this
theorem learnt_all {ms : List Mk} (hlm : ms.length ≤ 4194304) {s : List Int} (hs : FS ms s) (a : Int) (ch : List Int) : Ev (fun k => fulcrumref21_learnt.f k ms a s ch) (a :: restL ms s a, mostL ms (restL ms s a), ch) := by
  have hsl := hs.len
  have hd := hs.del a
  refine Ev.congr (f := fun k => (fulcrumref21_without.f k s a).bind fun t => (fulcrumref21_falling.f k ms t).bind fun u => fulcrumref21_learnt.l0 k ms u 0 [a] 0 ch) (fun k => rfl) (Ev.bind (without_all s a (by omega)) (Ev.bind (falling_all hlm hd) ?_))
  have := learnt_ev hlm hd.fall a ch (fallL ms (delK s a)).length 0 (by omega) 0 (Int.le_refl _)
  have e : max 0 (mostL ms ((fallL ms (delK s a)).drop 0)) = mostL ms (fallL ms (delK s a)) := by rw [List.drop_zero]; have := mostL_nonneg ms (fallL ms (delK s a)); omega
  rw [e] at this
  rw [← restL_del hs a]
  exact this
theorem cleanL_pre (cs : List (List Int)) (ms : List Mk) (p : List Int) : ∀ (n : Nat) (s ch : List Int), cleanL cs ms n s (p ++ ch) = ((cleanL cs ms n s ch).1, p ++ (cleanL cs ms n s ch).2)
  | 0, s, ch => rfl
  | n + 1, s, ch => by
    rw [cleanL, cleanL]
    cases hz : zeroF ms s with
    | none => rfl
    | some x => simp only []; rw [List.append_assoc]; exact cleanL_pre cs ms p n _ _
theorem cleanL_FS {cs : List (List Int)} {ms : List Mk} (hW : Wf cs ms) (hv : VT cs ms) : ∀ (n : Nat) (s ch : List Int), FS ms s → FS ms (cleanL cs ms n s ch).1
  | 0, s, ch, h => h
  | n + 1, s, ch, h => by
    rw [cleanL]
    cases hz : zeroF ms s with
    | none => exact h
    | some x =>
      obtain ⟨hx, hx0, _⟩ := zeroF_some hz
      exact cleanL_FS hW hv n _ _ (h.res hW hv hx (hv.zero (h.f x hx) hx0))
theorem restL_len {ms : List Mk} (s : List Int) (a : Int) : (restL ms s a).length ≤ s.length := by
  have h1 : (restL ms s a).length ≤ (fallL ms s).length := List.length_filter_le _ _
  rwa [(fallL_perm ms s).length_eq] at h1
end Go.Proofs.Ytboalbiicmcljaa.PAN
