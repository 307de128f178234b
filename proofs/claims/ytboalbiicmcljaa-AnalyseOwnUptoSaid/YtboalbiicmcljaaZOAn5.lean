import Derived.Test.YtboalbiicmcljaaZOAn4
import Derived.ScopeJumps
import Derived.WalkMore
namespace Go.Proofs.Ytboalbiicmcljaa.PAN
open Go.RowKit Go.Proofs.YtboalbiicmcljaaW.PrintWords Go.Proofs.YtboalbiicmcljaaW.PrintLast Go.Proofs.YtboalbiicmcljaaW.PrintMore Go.Proofs.YtboalbiicmcljaaH
set_option linter.unusedVariables false
set_option linter.unusedSimpArgs false
def lev (ms : List Mk) (x : Int) : Int := (mkOf ms x).f1
def rsn (ms : List Mk) (x : Int) : Int := (mkOf ms x).f2
def VT (cs : List (List Int)) (ms : List Mk) : Prop := ∀ i m, ms[i]? = some m → okAtB cs (ms.take i) m = true
theorem valid_all (cs : List (List Int)) : ∀ (rest pre : List Mk), validB cs pre rest = true → ∀ i m, rest[i]? = some m → okAtB cs (pre ++ rest.take i) m = true
  | [], pre, _, i, m, h => by simp at h
  | x :: r, pre, hv, i, m, h => by
    rw [validB, Bool.and_eq_true] at hv
    cases i with
    | zero => simp at h; subst h; simpa using hv.1
    | succ i =>
      have := valid_all cs r (pre ++ [x]) hv.2 i m (by simpa using h)
      simpa using this
theorem VT.of {cs : List (List Int)} {ms : List Mk} (h : validB cs [] ms = true) : VT cs ms := fun i m hm => by
  have := valid_all cs ms [] h i m hm
  simpa using this
structure OkAt (cs : List (List Int)) (pre : List Mk) (m : Mk) : Prop where
  lit : litB m.f0 = true
  new : hasM pre m.f0 = false ∧ hasM pre (-m.f0) = false
  how : (m.f2 = -1 ∧ m.f1 = lvlM pre + 1) ∨ (m.f2 ≠ -1 ∧ 0 ≤ m.f2 ∧ m.f2 < cs.length ∧ forcesB pre (rdC cs m.f2) m.f0 = true ∧ m.f1 = lvlM pre)
theorem okAt_iff {cs : List (List Int)} {pre : List Mk} {m : Mk} : okAtB cs pre m = true ↔ OkAt cs pre m := by
  unfold okAtB
  constructor
  · intro h
    simp only [Bool.and_eq_true, Bool.not_eq_true'] at h
    obtain ⟨⟨h1, h2⟩, h3⟩ := h
    refine ⟨h1, h2, ?_⟩
    by_cases hc : m.f2 = -1
    · rw [if_pos hc] at h3
      exact .inl ⟨hc, by simpa using h3⟩
    · rw [if_neg hc] at h3
      simp only [Bool.and_eq_true, decide_eq_true_eq, beq_iff_eq] at h3
      exact .inr ⟨hc, h3.1.1.1, h3.1.1.2, h3.1.2, h3.2⟩
  · rintro ⟨h1, h2, h3⟩
    simp only [Bool.and_eq_true, Bool.not_eq_true']
    refine ⟨⟨h1, h2⟩, ?_⟩
    rcases h3 with ⟨hc, h4⟩ | ⟨hc, h4, h5, h6, h7⟩
    · rw [if_pos hc, h4]; simp
    · rw [if_neg hc]
      simp only [Bool.and_eq_true, decide_eq_true_eq, beq_iff_eq]
      exact ⟨⟨⟨h4, h5⟩, h6⟩, h7⟩
theorem lvl_step {cs : List (List Int)} {ms : List Mk} (h : VT cs ms) {i : Nat} (hi : i < ms.length) : lvlM (ms.take i) ≤ lvlM (ms.take (i + 1)) := by
  have hm := take_mk hi
  have hg : ms[i]? = some (rd_T49 ms (i : Int)) := by
    rw [List.getElem?_eq_getElem hi]
    simp [rd_T49, List.getD_eq_getElem?_getD, List.getElem?_eq_getElem hi]
  have ho := okAt_iff.1 (h i _ hg)
  rw [hm, lvlM_snoc]
  rcases ho.how with ⟨_, q⟩ | ⟨_, _, _, _, q⟩ <;> omega
theorem lvl_mono {cs : List (List Int)} {ms : List Mk} (h : VT cs ms) {i : Nat} : ∀ j, j ≤ ms.length → i ≤ j → lvlM (ms.take i) ≤ lvlM (ms.take j)
  | 0, _, hij => by have : i = 0 := by omega
                    subst this; exact Int.le_refl _
  | j + 1, hj, hij => by
    rcases Nat.lt_or_ge i (j + 1) with hlt | hge
    · exact Int.le_trans (lvl_mono h j (by omega) (by omega)) (lvl_step h (by omega))
    · have : i = j + 1 := by omega
      subst this; exact Int.le_refl _
theorem lev_lvl {ms : List Mk} {x : Int} (hx : isFalseB ms x = true) : lev ms x = lvlM (ms.take (pk ms x + 1)) := by
  have h1 := pk_lt hx
  have h2 := (mkOf_get hx).1
  rw [List.take_add_one, h2]
  simp [lvlM_snoc, lev]
theorem lev_nonneg {cs : List (List Int)} {ms : List Mk} (h : VT cs ms) {x : Int} (hx : isFalseB ms x = true) : 0 ≤ lev ms x := by
  have h1 := lvl_mono h (i := 0) (pk ms x + 1) (pk_lt hx) (Nat.zero_le _)
  rw [← lev_lvl hx] at h1
  simpa [lvlM] using h1
theorem lev_le {cs : List (List Int)} {ms : List Mk} (h : VT cs ms) {x y : Int} (hx : isFalseB ms x = true) (hy : isFalseB ms y = true) (hp : pk ms y ≤ pk ms x) : lev ms y ≤ lev ms x := by
  rw [lev_lvl hx, lev_lvl hy]
  exact lvl_mono h _ (pk_lt hx) (by omega)
theorem placeN_take {ms : List Mk} {l : Int} {i : Nat} (h : hasM (ms.take i) l = true) : hasM ms l = true ∧ placeN ms l < i := by
  have h1 := placeN_lt.2 h
  have h2 : placeN ms l = placeN (ms.take i) l := by
    have e : ms = ms.take i ++ ms.drop i := (List.take_append_drop i ms).symm
    have : placeN (ms.take i ++ ms.drop i) l = placeN (ms.take i) l := by
      unfold placeN
      rw [List.findIdx_append, if_pos (by rw [List.findIdx_lt_length, ← List.any_eq_true]; exact h)]
    rw [← e] at this
    exact this
  have h3 : (ms.take i).length ≤ i := by rw [List.length_take]; omega
  refine ⟨?_, by omega⟩
  rw [hasM_mem] at h ⊢
  exact List.mem_of_mem_take (by simpa [keysM, List.map_take] using h)
theorem VT.new {cs : List (List Int)} {ms : List Mk} (h : VT cs ms) {x : Int} (hx : isFalseB ms x = true) (hr : rsn ms x ≠ -1) :
    0 ≤ rsn ms x ∧ rsn ms x < cs.length ∧ ∀ y ∈ newL cs ms x, isFalseB ms y = true ∧ pk ms y < pk ms x ∧ lev ms y ≤ lev ms x := by
  obtain ⟨h1, h2⟩ := mkOf_get hx
  have ho := okAt_iff.1 (h _ _ h1)
  rcases ho.how with ⟨q, _⟩ | ⟨_, q1, q2, q3, _⟩
  · exact absurd q hr
  · refine ⟨q1, q2, fun y hy => ?_⟩
    unfold newL at hy
    rw [List.mem_filter] at hy
    unfold forcesB at q3
    rw [Bool.and_eq_true] at q3
    have h3 := List.all_eq_true.1 q3.2 y hy.1
    have hne : (y == (mkOf ms x).f0) = false := by rw [h2]; simpa using hy.2
    rw [hne, Bool.false_or] at h3
    unfold isFalseB at h3
    rw [Bool.and_eq_true] at h3
    obtain ⟨h4, h5⟩ := placeN_take h3.2
    have hf : isFalseB ms y = true := by unfold isFalseB; rw [h3.1, h4]; rfl
    exact ⟨hf, h5, lev_le h hx hf (Nat.le_of_lt h5)⟩
theorem VT.zero {cs : List (List Int)} {ms : List Mk} (h : VT cs ms) {x : Int} (hx : isFalseB ms x = true) (hl : lev ms x = 0) : rsn ms x ≠ -1 := by
  intro hr
  obtain ⟨h1, h2⟩ := mkOf_get hx
  have ho := okAt_iff.1 (h _ _ h1)
  rcases ho.how with ⟨q, q1⟩ | ⟨q, _⟩
  · have h3 := lvl_mono h (i := 0) (pk ms x) (Nat.le_of_lt (pk_lt hx)) (Nat.zero_le _)
    unfold lev at hl
    have h4 : lvlM (ms.take 0) = 0 := by simp [lvlM]
    unfold pk at h3 q1
    unfold pk at *
    omega
  · exact absurd hr q
theorem mem_foldl_insK : ∀ {l s : List Int} {y : Int}, y ∈ l.foldl insK s ↔ y ∈ s ∨ y ∈ l
  | [], s, y => by simp
  | x :: r, s, y => by
    rw [List.foldl_cons, mem_foldl_insK, mem_insK, List.mem_cons]
    constructor
    · rintro ((h | h) | h) <;> simp [h]
    · rintro (h | h | h) <;> simp [h]
theorem nodup_foldl_insK : ∀ {l s : List Int}, s.Nodup → (l.foldl insK s).Nodup
  | [], s, h => h
  | x :: r, s, h => nodup_foldl_insK (l := r) (nodup_insK h x)
theorem mem_resL {cs : List (List Int)} {ms : List Mk} {s : List Int} {x y : Int} : y ∈ resL cs ms s x ↔ (y ∈ s ∧ y ≠ x) ∨ y ∈ newL cs ms x := by
  unfold resL
  rw [mem_foldl_insK, mem_delK]
theorem nodup_resL {cs : List (List Int)} {ms : List Mk} {s : List Int} (h : s.Nodup) (x : Int) : (resL cs ms s x).Nodup := nodup_foldl_insK (h.filter _)
theorem AllF.res {cs : List (List Int)} {ms : List Mk} (h : VT cs ms) {s : List Int} (hs : AllF ms s) {x : Int} (hx : x ∈ s) (hr : rsn ms x ≠ -1) : AllF ms (resL cs ms s x) := by
  intro y hy
  rcases mem_resL.1 hy with ⟨h1, _⟩ | h1
  · exact hs y h1
  · exact ((h.new (hs x hx) hr).2.2 y h1).1
def zeroF (ms : List Mk) (s : List Int) : Option Int := (fallL ms s).find? fun x => lev ms x == 0
def cleanL (cs : List (List Int)) (ms : List Mk) : Nat → List Int → List Int → List Int × List Int
  | 0, s, ch => (s, ch)
  | n + 1, s, ch => match zeroF ms s with
    | none => (s, ch)
    | some x => cleanL cs ms n (resL cs ms s x) (ch ++ [rsn ms x])
theorem zeroF_some {ms : List Mk} {s : List Int} {x : Int} (h : zeroF ms s = some x) : x ∈ s ∧ lev ms x = 0 ∧ ∀ y ∈ s, lev ms y = 0 → pk ms y ≤ pk ms x := by
  unfold zeroF at h
  obtain ⟨h1, aa, bb, h2, h3⟩ := List.find?_eq_some_iff_append.1 h
  have hp := fallL_perm ms s
  refine ⟨hp.mem_iff.1 (by rw [h2]; simp), by simpa using h1, fun y hy hy0 => ?_⟩
  have hy' := hp.mem_iff.2 hy
  have hs := fallL_sorted ms s
  rw [h2] at hy' hs
  rcases List.mem_append.1 hy' with q | q
  · have := h3 y q
    simp [hy0] at this
  · rcases List.mem_cons.1 q with rfl | q
    · exact Nat.le_refl _
    · have := (List.pairwise_append.1 hs).2.1
      exact (List.pairwise_cons.1 this).1 y q
theorem zeroF_none {ms : List Mk} {s : List Int} (h : zeroF ms s = none) : ∀ y ∈ s, lev ms y ≠ 0 := by
  intro y hy
  unfold zeroF at h
  have := List.find?_eq_none.1 h y ((fallL_perm ms s).mem_iff.2 hy)
  simpa using this
theorem clean_bound {cs : List (List Int)} {ms : List Mk} (h : VT cs ms) {s : List Int} (hs : AllF ms s) {x : Int} (hz : zeroF ms s = some x) : ∀ y ∈ resL cs ms s x, lev ms y = 0 → pk ms y < pk ms x := by
  obtain ⟨h1, h2, h3⟩ := zeroF_some hz
  intro y hy hy0
  rcases mem_resL.1 hy with ⟨q1, q2⟩ | q
  · have h4 := h3 y q1 hy0
    rcases Nat.lt_or_ge (pk ms y) (pk ms x) with h5 | h5
    · exact h5
    · exact absurd (pk_inj (hs y q1) (hs x h1) (Nat.le_antisymm h4 h5)) q2
  · exact ((h.new (hs x h1) (h.zero (hs x h1) h2)).2.2 y q).2.1
theorem cleanL_inv {cs : List (List Int)} {ms : List Mk} (h : VT cs ms) : ∀ (n : Nat) (s ch : List Int), AllF ms s → s.Nodup → AllF ms (cleanL cs ms n s ch).1 ∧ (cleanL cs ms n s ch).1.Nodup ∧ (cleanL cs ms n s ch).2.length ≤ ch.length + n
  | 0, s, ch, hs, hn => ⟨hs, hn, by simp [cleanL]⟩
  | n + 1, s, ch, hs, hn => by
    rw [cleanL]
    cases hz : zeroF ms s with
    | none => exact ⟨hs, hn, by simp only; omega⟩
    | some x =>
      obtain ⟨h1, h2, _⟩ := zeroF_some hz
      have := cleanL_inv h n (resL cs ms s x) (ch ++ [rsn ms x]) (hs.res h h1 (h.zero (hs x h1) h2)) (nodup_resL hn x)
      simp only at this ⊢
      refine ⟨this.1, this.2.1, ?_⟩
      have h3 := this.2.2
      rw [List.length_append, List.length_singleton] at h3
      omega
theorem least_of {p : Nat → Prop} : ∀ k, p k → ∃ m, p m ∧ ∀ j, p j → m ≤ j := by
  intro k
  induction k using Nat.strongRecOn with
  | _ k ih =>
    intro h
    by_cases hc : ∃ j, j < k ∧ p j
    · obtain ⟨j, hj, hpj⟩ := hc
      exact ih j hj hpj
    · exact ⟨k, h, fun j hpj => Nat.le_of_not_lt (fun hlt => hc ⟨j, hlt, hpj⟩)⟩
theorem wp_scope_ghost {P : Program} {Q : Exit → Act → World → Prop} {a : Act} {w : World} {rest : Code} (l : Nat) (J : Nat → Act → World → Prop) (k0 : Nat)
    (start : J k0 a w) (pass : ∀ k a w, J k a w → rest.wp P (Exit.jump l (fun a' w' => ∃ k', k' < k ∧ J k' a' w') Q) a w) : (Code.scope ((Code.label l).seq rest)).wp P Q a w := by
  have hl : ∀ a w, (∃ k, J k a w) → ∃ m, J m a w ∧ ∀ j, J j a w → m ≤ j := fun a w ⟨k, h⟩ => least_of (p := fun k => J k a w) k h
  have hf : findLabel ((Code.label l).seq rest) l = some (Code.skip.seq rest) := by simp [findLabel]
  refine wp_scope_jumps l (fun a w => ∃ k, J k a w) (fun a w => open Classical in if h : ∃ k, J k a w then Classical.choose (hl a w h) else 0) hf ?_ ?_
  · refine wp_seq (wp_label ?_)
    refine wp_mono (pass k0 a w start) (fun e a' w' h => ?_)
    cases e with
    | goto l' => exact ⟨h.1, h.2.elim fun k' q => ⟨k', q.2⟩⟩
    | normal => exact h
    | exit id => exact h
    | ret => exact h
    | panic ch => exact h
    | outgrown => exact h
  · intro a w hJ
    have hm := Classical.choose_spec (hl a w hJ)
    refine wp_seq (wp_skip ?_)
    refine wp_mono (pass _ a w hm.1) (fun e a' w' h => ?_)
    cases e with
    | goto l' =>
      obtain ⟨h1, k', h2, h3⟩ := h
      refine ⟨h1, ⟨k', h3⟩, ?_⟩
      have hJ' : ∃ k, J k a' w' := ⟨k', h3⟩
      have hm' := Classical.choose_spec (hl a' w' hJ')
      have h4 := hm'.2 k' h3
      simp only [dif_pos hJ, dif_pos hJ']
      omega
    | normal => exact h
    | exit id => exact h
    | ret => exact h
    | panic ch => exact h
    | outgrown => exact h
set_option maxRecDepth 100000 in
theorem fld1 (a b c : Value) (w : World) : (Instr.field 49 (.agg #[a, b, c]) 1).run Try.prog w = .ok b w := by
  kernel_rfl
structure CleanI (w : World) (L : Nat) (ok : Nat → Prop) (sb tb : Nat) (cs : List (List Int)) (ms : List Mk) (R : List Int × List Int) (k : Nat) (s ch : List Int) (w' : World) : Prop where
  se : Se w' (fun j => ok j ∨ w.heap.size ≤ j) sb tb s ch
  rest : Rest w w' ok
  f : AllF ms s
  n : s.Nodup
  bd : ∀ y ∈ s, lev ms y = 0 → pk ms y < k
  ln : ch.length + k ≤ 1099511627776
  eq : cleanL cs ms k s ch = R
theorem find_at {ms : List Mk} {l : List Int} {i : Nat} {x : Int} (h : ∀ y ∈ l.take i, lev ms y ≠ 0) (hx : l[i]? = some x) (h0 : lev ms x = 0) : (l.find? fun x => lev ms x == 0) = some x := by
  have hi : i < l.length := (List.getElem?_eq_some_iff.1 hx).1
  have e : l = l.take i ++ x :: l.drop (i + 1) := by
    have h1 : l.drop i = x :: l.drop (i + 1) := by
      rw [List.drop_eq_getElem_cons hi]
      congr 1
      exact (List.getElem?_eq_some_iff.1 hx).2
    rw [← h1, List.take_append_drop]
  rw [e, List.find?_append]
  have : ((l.take i).find? fun x => lev ms x == 0) = none := List.find?_eq_none.2 (fun y hy => by simpa using h y hy)
  rw [this]
  simp [h0]
theorem rd_getE {l : List Int} {i : Nat} (h : i < l.length) : l[i]? = some (rd l (i : Int)) := by
  simp [rd, List.getD_eq_getElem?_getD, List.getElem?_eq_getElem h]
set_option maxHeartbeats 8000000 in
set_option maxRecDepth 100000 in
theorem an_clean (L tb sb : Nat) (cs : List (List Int)) (ms : List Mk) (ok : Nat → Prop) (s ch : List Int) (w : World) (hT : Tr w L tb cs ms) (hS : Se w ok sb tb s ch) (hok : ∀ k, ok k → L ≤ k) (hv : VT cs ms) (hf : AllF ms s) (hwf : Wf cs ms) (hch : ch.length + ms.length ≤ 1099511627776) :
    Calls Try.prog 40 #[.pointer (some ⟨sb, 0, none⟩)] w fun e w' => e = .returned (.tuple #[]) ∧ Se w' (fun k => ok k ∨ w.heap.size ≤ k) sb tb (cleanL cs ms ms.length s ch).1 (cleanL cs ms ms.length s ch).2 ∧ Rest w w' ok := by
  have HT := Aside0.mk hT
  have HOK := Aside0.mk hok
  have HV := Aside0.mk hv
  have HW := Aside0.mk hwf
  obtain ⟨R, hR⟩ : ∃ R, R = cleanL cs ms ms.length s ch := ⟨_, rfl⟩
  rw [← hR]
  have HI0 : Aside0 (CleanI w L ok sb tb cs ms R ms.length s ch w) := ⟨⟨hS.mono (fun _ h => .inl h), Rest.refl _ _, hf, by obtain ⟨_, _, q⟩ := hS; exact q.map.nodup, fun y hy _ => pk_lt (hf y hy), hch, hR.symm⟩⟩
  clear hT hS hok hf hwf hch hv hR
  go_enter Try.func40, Try.ntmps40
  refine wp_scope_ghost 0 (fun k a w' => ∃ s ch u1 u2 u3 u4 u5 u6 u7 u8 u9 u10 u11 u12 u13 u14 u15 u16 u17 u18 u19 u20 u21 u22, a = { tmps := #[.pointer (some ⟨sb, 0, none⟩), u1, u2, u3, u4, u5, u6, u7, u8, u9, u10, u11, u12, u13, u14, u15, u16, u17, u18, u19, u20, u21, u22], defers := [] } ∧ Aside0 (CleanI w L ok sb tb cs ms R k s ch w')) ms.length ⟨s, ch, _, _, _, _, _, _, _, _, _, _, _, _, _, _, _, _, _, _, _, _, _, _, rfl, HI0⟩ ?_
  clear HI0 s ch
  rintro k a w1 ⟨s, ch, u1, u2, u3, u4, u5, u6, u7, u8, u9, u10, u11, u12, u13, u14, u15, u16, u17, u18, u19, u20, u21, u22, rfl, HI⟩
  have HL : Aside0 (∀ j, (ok j ∨ w.heap.size ≤ j) → L ≤ j) := ⟨fun j hj => hj.elim (HOK.out j) (fun q => Nat.le_trans HT.out.le q)⟩
  have HT1 : Aside0 (Tr w1 L tb cs ms) := ⟨HT.out.below (HI.out.rest.belowL HT.out.le HOK.out)⟩
  go_wp2_with (first | (go_at_call 58; refine (an_falling L tb sb cs ms _ s ch _ HT1.out HI.out.se HI.out.f HW.out.lm).mono ?_; rintro e w2 ⟨v, rfl, hv2, hb2⟩; obtain ⟨A2, c2, rfl⟩ := Kd.R_slice hv2; have H2 := Aside0.mk (And.intro hv2 hb2); clear hv2 hb2))
  have hlen : (fallL ms s).length ≤ 4194304 := by
    have h1 := (fallL_perm ms s).length_eq
    have h2 := len_of_falses HI.out.n HI.out.f
    have h3 := HW.out.lm
    omega
  have HLW : Aside0 (∀ x ∈ fallL ms s, x ∈ s ∧ isFalseB ms x = true ∧ w64 x) := ⟨fun x hx => by
    have h1 := (fallL_perm ms s).mem_iff.1 hx
    obtain ⟨_, _, q⟩ := HI.out.se
    exact ⟨h1, HI.out.f x h1, (q.map.wf x h1).1⟩⟩
  obtain ⟨l, hl⟩ : ∃ l, l = fallL ms s := ⟨_, rfl⟩
  have HLE := Aside0.mk hl
  rw [← hl] at H2 HLW hlen ⊢
  clear hl
  have HJ0 : Aside0 (Below w1.heap.size w1 w2) := ⟨H2.out.2⟩
  go_loopg [7] l.length (fun kq v7 w' => ∃ i : Nat, v7 = .int .i64 i ∧ i + kq = l.length ∧ Aside0 ((∀ y ∈ l.take i, lev ms y ≠ 0) ∧ Below w1.heap.size w1 w' ∧ Below w2.heap.size w2 w'))
  case atStart => exact ⟨0, rfl, by omega, ⟨by simp, H2.out.2, Below.refl _ _⟩⟩
  case round =>
    obtain ⟨i, rfl, hik, HK⟩ := hrel
    clear HJ0
    cases gk with
    | zero =>
      obtain rfl : i = l.length := by omega
      have hz : zeroF ms s = none := by
        unfold zeroF
        rw [← HLE.out]
        exact List.find?_eq_none.2 (fun y hy => by have := HK.out.1 y (by rw [List.take_length]; exact hy); simpa using this)
      have hR : R = (s, ch) := by
        rw [← HI.out.eq]
        cases k with
        | zero => rfl
        | succ n => rw [cleanL, hz]
      have HR := Aside0.mk hR
      clear hz hR
      go_wp2
      simp only [Exit.jump]
      go_end0
      refine ⟨rfl, ?_, HI.out.rest.then_below HK.out.2.1⟩
      rw [HR.out]
      exact HI.out.se.below HK.out.2.1
    | succ k1 =>
      have hlt : i < l.length := by omega
      have hC := Kd.C_below (Kd.R_reads' H2.out.1).2.2 HK.out.2.2
      obtain ⟨ad, rfl, hx⟩ := Kd.at_int hC (i : Int) (by omega) (by omega)
      rw [Int.toNat_natCast] at hx
      have hxm := HLW.out _ (rdm hlt)
      have hxe := rd_getE hlt
      have htk := take_rd hlt
      obtain ⟨x, hxq⟩ : ∃ x, x = rd l (i : Int) := ⟨_, rfl⟩
      rw [← hxq] at hx hxm hxe htk
      have HX := Aside0.mk hxm
      have HXE := Aside0.mk hxe
      have HTK := Aside0.mk htk
      have HS2 : Aside0 (Se wr (fun j => ok j ∨ w.heap.size ≤ j) sb tb s ch) := ⟨HI.out.se.below HK.out.2.1⟩
      have HT2 : Aside0 (Tr wr L tb cs ms) := ⟨HT1.out.below (below_L HK.out.2.1 HT1.out.le)⟩
      have c0 : wr.cell? ⟨sb, 0, none⟩ = some (.pointer (some ⟨tb, 0, none⟩)) := by obtain ⟨_, _, q⟩ := HS2.out; exact q.c0
      clear hC hxm hxe hxq htk
      have hfld := fun (a b c : Value) (w : World) => fld1 a b c w
      by_cases h0 : lev ms x = 0
      · have h01 : ((mkOf ms x).f1 == 0) = true := by simpa [lev] using h0
        have H0 := Aside0.mk h0
        clear h0
        have hz : zeroF ms s = some x := by
          unfold zeroF
          rw [← HLE.out]
          exact find_at HK.out.1 HXE.out H0.out
        have hr := HV.out.new HX.out.2.1 (HV.out.zero HX.out.2.1 H0.out)
        have HZ := Aside0.mk hz
        have HRR := Aside0.mk hr
        have HSL : Aside0 (s.length ≤ 4194304) := ⟨by have h2 := len_of_falses HI.out.n HI.out.f; have h3 := HW.out.lm; omega⟩
        have hcl : ch.length ≤ 1099511627776 := by have := HI.out.ln; omega
        have HCL := Aside0.mk hcl
        clear hz hr hcl
        go_wp2_with (first | (go_at_call 57; refine (an_markT L tb cs ms x _ HT2.out HX.out.2.2 HX.out.2.1).mono ?_; rintro e w4 ⟨rfl, hb4⟩; have HB4 := Aside0.mk hb4; clear hb4) | (go_at_call 39; refine (an_resolve L tb sb cs ms _ s ch x _ (HT2.out.below (below_L HB4.out HT2.out.le)) (HS2.out.below HB4.out) HL.out HX.out.2.2 HX.out.2.1 HW.out HRR.out.1 HRR.out.2.1 HSL.out HCL.out).mono ?_; rintro e w5 ⟨rfl, hs5, hr5⟩; have H5 := Aside0.mk (And.intro hs5 hr5); clear hs5 hr5))
        have hpk := HI.out.bd x HX.out.1 H0.out
        obtain ⟨n, rfl⟩ : ∃ n, k = n + 1 := ⟨k - 1, by omega⟩
        have hI5 : CleanI w L ok sb tb cs ms R n (resL cs ms s x) (ch ++ [rsn ms x]) w5 := by
          refine ⟨H5.out.1.mono (fun j hj => ?_), ?_, HI.out.f.res HV.out HX.out.1 (HV.out.zero HX.out.2.1 H0.out), nodup_resL HI.out.n x, fun y hy hy0 => ?_, ?_, ?_⟩
          · rcases hj with q | q
            · exact q
            · exact .inr (Nat.le_trans HI.out.rest.size (Nat.le_trans HK.out.2.1.size (Nat.le_trans HB4.out.size q)))
          · refine ((HI.out.rest.then_below HK.out.2.1).then_below HB4.out).trans H5.out.2 (fun j hj q => ?_)
            rcases q with q | q
            · exact q
            · omega
          · have := clean_bound HV.out HI.out.f HZ.out y hy hy0
            omega
          · have := HI.out.ln
            rw [List.length_append, List.length_singleton]
            omega
          · rw [← HI.out.eq, cleanL, HZ.out]
        have HI5 := Aside0.mk hI5
        clear hI5 hpk
        go_step3
        exact ⟨rfl, n, Nat.lt_succ_self n, _, _, _, _, _, _, _, _, _, _, _, _, _, _, _, _, _, _, _, _, _, _, _, _, rfl, HI5⟩
      · have h01 : ((mkOf ms x).f1 == 0) = false := by simpa [lev] using h0
        have H0 := Aside0.mk h0
        clear h0
        go_wp2_with (first | (go_at_call 57; refine (an_markT L tb cs ms x _ HT2.out HX.out.2.2 HX.out.2.1).mono ?_; rintro e w4 ⟨rfl, hb4⟩; have HB4 := Aside0.mk hb4; clear hb4))
        go_roundg k1
        case measure => omega
        case rel => exact ⟨i + 1, by go_num, by omega, ⟨fun y hy => by
          rw [HTK.out] at hy
          rcases List.mem_append.1 hy with hy | hy
          · exact HK.out.1 y hy
          · simp at hy; exact hy ▸ H0.out, below_step HK.out.2.1 HB4.out, below_step HK.out.2.2 HB4.out⟩⟩
end Go.Proofs.Ytboalbiicmcljaa.PAN
