import Derived.Test.YtegaaobiedfjcaaStO
import Derived.Deep.RegionHeld3
namespace Go.Proofs.Ytegaaobiedfjcaa.PU
open Go.RowKit Go.Proofs.YtegaaobiedfjcaaW.PrintWords Go.Proofs.YtegaaobiedfjcaaW.PrintLast Go.Proofs.YtegaaobiedfjcaaW.PrintMore Go.Proofs.YtegaaobiedfjcaaH
set_option linter.unusedVariables false
set_option linter.unusedSimpArgs false
/-! ### play: boxes, and what a call leaves -/
structure Boxes (B : Nat) (w : World) (bm bo br : Array Value) : Prop where
  m : w.heap[B]? = some (.cells bm 65 (0, 0))
  o : w.heap[B + 1]? = some (.cells bo 52 (0, 0))
  r : w.heap[B + 2]? = some (.cells br 65 (0, 0))
theorem Boxes.step {B : Nat} {w w' : World} {bm bo br : Array Value} (h : Boxes B w bm bo br) (hm : ∀ k, B ≤ k → k ≤ B + 2 → k < w.heap.size → w'.heap[k]? = w.heap[k]?) : Boxes B w' bm bo br :=
  ⟨(hm _ (by omega) (by omega) (blk_lt h.m)).trans h.m, (hm _ (by omega) (by omega) (blk_lt h.o)).trans h.o, (hm _ (by omega) (by omega) (blk_lt h.r)).trans h.r⟩
theorem Boxes.below {B : Nat} {w w' : World} {bm bo br : Array Value} (h : Boxes B w bm bo br) (hb : Below w.heap.size w w') : Boxes B w' bm bo br := h.step (fun k _ _ hk => hb.block k hk)
theorem Boxes.setm {B : Nat} {w : World} {bm bo br : Array Value} (h : Boxes B w bm bo br) (i : Nat) (u : Value) : Boxes B (w.setCell ⟨B, i, none⟩ u) (bm.setIfInBounds i u) bo br :=
  ⟨blk_set h.m i u, blk_far h.o (fun e => by exact absurd e (Nat.succ_ne_self _)) u, blk_far h.r (fun e => by have : B + 2 = B := e; omega) u⟩
theorem Boxes.setr {B : Nat} {w : World} {bm bo br : Array Value} (h : Boxes B w bm bo br) (i : Nat) (u : Value) : Boxes B (w.setCell ⟨B + 2, i, none⟩ u) bm bo (br.setIfInBounds i u) :=
  ⟨blk_far h.m (fun e => by have : B = B + 2 := e; omega) u, blk_far h.o (fun e => by have : B + 1 = B + 2 := e; omega) u, blk_set h.r i u⟩
theorem boxes_new (w : World) (bm bo br : Array Value) : Boxes w.heap.size (((w.alloc (.cells bm 65)).alloc (.cells bo 52)).alloc (.cells br 65)) bm bo br := by
  have h1 := heap_alloc_new w (.cells bm 65)
  have h2 := heap_alloc_new (w.alloc (.cells bm 65)) (.cells bo 52)
  have h3 := heap_alloc_new ((w.alloc (.cells bm 65)).alloc (.cells bo 52)) (.cells br 65)
  have b2 := below_alloc (Below.refl (w.alloc (.cells bm 65)).heap.size _) (.cells bo 52)
  have b3 := below_alloc (Below.refl ((w.alloc (.cells bm 65)).alloc (.cells bo 52)).heap.size _) (.cells br 65)
  have z1 : (w.alloc (.cells bm 65)).heap.size = w.heap.size + 1 := by simp
  have z2 : ((w.alloc (.cells bm 65)).alloc (.cells bo 52)).heap.size = w.heap.size + 2 := by simp
  rw [z1] at h2
  rw [z2] at h3
  refine ⟨?_, ?_, ?_⟩
  · rw [b3.block _ (by simp; omega), b2.block _ (by simp)]; exact h1
  · rw [b3.block _ (by simp)]; exact h2
  · exact h3
/-- A run before play's call of the store. -/
structure PStart (w0 w w1 : World) (okS P : Nat → Prop) (bm bo br : Array Value) : Prop where
  sz : w1.heap.size = w.heap.size + 3
  bel : Below w.heap.size w w1
  box : Boxes w.heap.size w1 bm bo br
theorem pstart (w0 w : World) (okS P : Nat → Prop) (bm bo br : Array Value) : PStart w0 w (((w.alloc (.cells bm 65)).alloc (.cells bo 52)).alloc (.cells br 65)) okS P bm bo br :=
  ⟨by simp, below_alloc (below_alloc (below_alloc (Below.refl _ _) _) _) _, boxes_new w bm bo br⟩
/-- What play leaves. -/
structure PlayPost (w0 w w' : World) (okS P : Nat → Prop) (g : Nat) (n' : Int) (vl' vm' : Value) (len : Nat) (cc : Nat) : Prop where
  out : ∃ (vals' : List Int) (cls' : List (List Int × Int × Int)) (marks' : List S48) (cs' : List (List Int)) (oS oP : Nat → Prop),
    SInv n' vals' cls' marks' cs' ∧ cs'.length ≤ len + 1 ∧ (∀ k, oS k → ¬ oP k) ∧ (∀ k, oS k → okS k ∨ w.heap.size ≤ k) ∧ (∀ k, oP k → P k ∨ w.heap.size ≤ k) ∧
    St w' oS g vals' cls' marks' ∧ Mod w0 w' oP vl' vm' cs' marks'
  rest : Rest w w' (fun k => okS k ∨ P k)
theorem play_end {w0 w w1 wS W : World} {okS P oS oP : Nat → Prop} {g : Nat} {n' : Int} {vl' vm' : Value} {len cc : Nat} {vals' : List Int} {cls' : List (List Int × Int × Int)} {marks' : List S48} {cs' : List (List Int)}
    (hs1 : w1.heap.size = w.heap.size + 3) (hi : SInv n' vals' cls' marks' cs') (hlen : cs'.length ≤ len + 1) (hS : St wS oS g vals' cls' marks') (hM : Mod w0 wS oP vl' vm' cs' marks') (hd : ∀ k, oS k → ¬ oP k) (h1 : ∀ k, oS k → (okS k ∧ k < w.heap.size) ∨ w1.heap.size ≤ k) (h2 : ∀ k, oP k → (P k ∧ k < w.heap.size) ∨ w1.heap.size ≤ k)
    (hR : Rest w wS (fun k => okS k ∨ P k)) (hW : Rest wS W (fun k => k = w.heap.size ∨ k = w.heap.size + 2)) : PlayPost w0 w W okS P g n' vl' vm' len cc := by
  refine ⟨⟨vals', cls', marks', cs', oS, oP, hi, hlen, hd, fun k q => ?_, fun k q => ?_, hS.step (fun k q hk => hW.block k hk (fun z => ?_)), hM.step (fun k q hk => hW.block k hk (fun z => ?_))⟩, hR.trans hW (fun k hk q => by rcases q with q | q <;> omega)⟩
  · rcases h1 k q with z | z
    · exact .inl z.1
    · exact .inr (by omega)
  · rcases h2 k q with z | z
    · exact .inl z.1
    · exact .inr (by omega)
  · rcases h1 k q with y | y <;> rcases z with z | z <;> omega
  · rcases h2 k q with y | y <;> rcases z with z | z <;> omega
theorem Clause_ev (c : List Int) (n : Int) (h0 : 0 ≤ n) (h1 : n ≤ 4194304) (hc : c.length ≤ 4611686018427387904) : ∀ d i : Nat, i + d = c.length → Ev (fun k => fulcrumref20_Clause.l0 k c n (i : Int)) ((c.drop i).all (litB n)) := by
  intro d
  induction d with
  | zero =>
    intro i h
    refine Ev.step (f := fun _ => some true) (fun k => ?_) ?_
    · simp only [fulcrumref20_Clause.l0]; rw [if_neg (by omega)]
    · rw [List.drop_eq_nil_of_le (by omega)]; exact Ev.now _
  | succ d ih =>
    intro i h
    have hlt : i < c.length := by omega
    have ed : c.drop i = rd c (i : Int) :: c.drop (i + 1) := rd_drop' hlt
    rw [ed, List.all_cons]
    by_cases hb : litB n (rd c (i : Int)) = true
    · refine Ev.step (f := fun k => fulcrumref20_Clause.l0 k c n ((i + 1 : Nat) : Int)) (fun k => ?_) ?_
      · simp only [fulcrumref20_Clause.l0]
        rw [if_pos (by omega), if_pos (by omega), Lit_f _ n h0 (by omega), wrapI hlt hc]
        simp only [Option.bind_some, hb, if_true]
      · rw [hb, Bool.true_and]; exact ih (i + 1) (by omega)
    · have hb' : litB n (rd c (i : Int)) = false := by simpa using hb
      refine Ev.step (f := fun _ => some false) (fun k => ?_) ?_
      · simp only [fulcrumref20_Clause.l0]
        rw [if_pos (by omega), if_pos (by omega), Lit_f _ n h0 (by omega)]
        simp only [Option.bind_some, hb', Bool.false_eq_true, if_false]
      · rw [hb', Bool.false_and]; exact Ev.now _
theorem litsOk_all {vals : List Int} {n : Int} (h : (vals.length : Int) = n + 1) (c : List Int) : litsOk vals c = c.all (litB n) := by
  unfold litsOk
  have e : (vals.length : Int) - 1 = n := by omega
  rw [e, ← List.not_all_eq_any_not, Bool.not_not]
theorem Clause_all {n : Int} {vals : List Int} {cls : List (List Int × Int × Int)} {marks : List S48} {cs : List (List Int)} (hi : SInv n vals cls marks cs) (c : List Int) (hc : c.length ≤ 4194304) : ∃ k, fulcrumref20_Clause.f k c n = some (litsOk vals c) := by
  have hl := hi.len
  have := Clause_ev c n hi.n0 (by omega) (by omega) c.length 0 (by omega)
  rw [List.drop_zero, ← litsOk_all hl.1] at this
  obtain ⟨k, hk⟩ := this.rounds
  exact ⟨k, by simpa [fulcrumref20_Clause.f] using hk⟩
theorem forcesV_B {n : Int} {vals : List Int} {cls : List (List Int × Int × Int)} {marks : List S48} {cs : List (List Int)} (hi : SInv n vals cls marks cs) {c : List Int} (hc : c ∈ cs) {l : Int} (hl : l ≠ 0) : forcesV vals c l = forcesB marks c l := by
  unfold forcesV forcesB othersF
  have e1 : decide (valL vals l = 0) = openB marks l := by
    by_cases h : valL vals l = 0
    · obtain ⟨o1, o2⟩ := openB_zero hi.t hl h
      unfold openB; rw [o1, o2, decide_eq_true h]; rfl
    · rw [decide_eq_false h]
      cases ho : openB marks l
      · rfl
      · unfold openB at ho
        simp only [Bool.and_eq_true, Bool.not_eq_true'] at ho
        exact absurd (valL_zero hi.t hl ho.1 ho.2) h
  have e2 : c.all (fun x => decide (x = l) || decide (valL vals x < 0)) = c.all (fun x => decide (x = l) || tB marks (-x)) := by
    rw [Bool.eq_iff_iff, List.all_eq_true, List.all_eq_true]
    constructor
    · intro h x hx
      have h0 := (hi.lits c hc x hx).1
      have := h x hx
      simp only [Bool.or_eq_true, decide_eq_true_eq] at this ⊢
      exact this.imp id (fun q => tB_iff.2 ((hi.t.neg h0).1 q))
    · intro h x hx
      have h0 := (hi.lits c hc x hx).1
      have := h x hx
      simp only [Bool.or_eq_true, decide_eq_true_eq] at this ⊢
      exact this.imp id (fun q => (hi.t.neg h0).2 (tB_iff.1 q))
  rw [e1, e2]
theorem openB_val {n : Int} {vals : List Int} {cls : List (List Int × Int × Int)} {marks : List S48} {cs : List (List Int)} (hi : SInv n vals cls marks cs) {l : Int} (hl : l ≠ 0) : openB marks l = decide (valL vals l = 0) := by
  by_cases h : valL vals l = 0
  · obtain ⟨o1, o2⟩ := openB_zero hi.t hl h
    unfold openB; rw [o1, o2, decide_eq_true h]; rfl
  · rw [decide_eq_false h]
    cases ho : openB marks l
    · rfl
    · unfold openB at ho
      simp only [Bool.and_eq_true, Bool.not_eq_true'] at ho
      exact absurd (valL_zero hi.t hl ho.1 ho.2) h
theorem SInv.litE {n : Int} {vals : List Int} {cls : List (List Int × Int × Int)} {marks : List S48} {cs : List (List Int)} (hi : SInv n vals cls marks cs) (l : Int) : litB ((vals.length : Int) - 1) l = litB n l := by
  have := hi.len.1
  rw [show (vals.length : Int) - 1 = n by omega]
theorem SInv.clsAt {n : Int} {vals : List Int} {cls : List (List Int × Int × Int)} {marks : List S48} {cs : List (List Int)} (hi : SInv n vals cls marks cs) {i : Nat} {c : List Int} (h : cs[i]? = some c) : ∃ a b, cls[i]? = some (c, a, b) := by
  rw [← hi.ecs, List.getElem?_map] at h
  cases e : cls[i]? with
  | none => rw [e] at h; cases h
  | some x =>
    rw [e] at h
    obtain ⟨c', a, b⟩ := x
    simp only [Option.map_some, Option.some.injEq] at h
    subst h
    exact ⟨a, b, rfl⟩

/-! ### how a store and its model go on -/
theorem litsOk_mono {vals vals' : List Int} (h : vals.length ≤ vals'.length) {c : List Int} (hc : litsOk vals c = true) : litsOk vals' c = true := by
  unfold litsOk at *
  simp only [Bool.not_eq_true', List.any_eq_false] at *
  intro x hx
  have := litB_iff.1 (by simpa using hc x hx)
  have h2 : litB ((vals'.length : Int) - 1) x = true := litB_iff.2 (by omega)
  simp [h2]
theorem SInv.add {n : Int} {vals : List Int} {cls : List (List Int × Int × Int)} {marks : List S48} {cs : List (List Int)} (h : SInv n vals cls marks cs) {c : List Int} (hc : litsOk vals c = true) (hl : c.length ≤ 4194304) (hn : cs.length < 1048576) : SInv n vals (cls ++ [(c, 0, 0)]) marks (cs ++ [c]) := by
  have e : cs.length = cls.length := by rw [← h.ecs, List.length_map]
  refine ⟨⟨h.fit.v, fun x hx => ?_, fun x hx => ?_, by rw [List.length_append, List.length_singleton]; omega, h.fit.sum⟩, by rw [List.map_append, h.ecs]; rfl, fun x hx => ?_, h.t, h.may.mono (Int.le_refl _) _, h.n0⟩
  · rcases List.mem_append.1 hx with q | q
    · exact h.fit.lit x q
    · rw [List.mem_singleton.1 q]; exact hc
  · rcases List.mem_append.1 hx with q | q
    · exact h.fit.at_ x q
    · rw [List.mem_singleton.1 q]; intro hq; dsimp only at *; omega
  · rcases List.mem_append.1 hx with q | q
    · exact h.cl x q
    · rw [List.mem_singleton.1 q]; exact hl
theorem rd_app0 (vals : List Int) (i : Int) : rd (vals ++ [0]) i = rd vals i := by
  unfold rd
  rw [List.getD_eq_getElem?_getD, List.getD_eq_getElem?_getD]
  rcases Nat.lt_trichotomy i.toNat vals.length with q | q | q
  · rw [List.getElem?_append_left q]
  · rw [List.getElem?_append_right (by omega), q]; simp
  · rw [List.getElem?_eq_none (l := vals) (by omega), List.getElem?_eq_none (by simp; omega)]
theorem valL_app0 (vals : List Int) (l : Int) : valL (vals ++ [0]) l = valL vals l := by
  unfold valL; rw [rd_app0, rd_app0]
theorem SInv.grow {n : Int} {vals : List Int} {cls : List (List Int × Int × Int)} {marks : List S48} {cs : List (List Int)} (h : SInv n vals cls marks cs) (hn : n < 262144) : SInv (n + 1) (vals ++ [0]) cls marks cs := by
  have hl := h.len
  have h0 := h.n0
  have hle : vals.length ≤ (vals ++ [0]).length := by simp
  refine ⟨⟨⟨by simp, by simp; omega, fun x hx => ?_⟩, fun x hx => litsOk_mono hle (h.fit.lit x hx), h.fit.at_, h.fit.cap, ?_⟩, h.ecs, h.cl, ⟨by simp; omega, fun l q => by rw [valL_app0]; exact h.t.tv l q, h.t.nd, fun m hm => by have := h.t.rng m hm; omega⟩, ?_, by omega⟩
  · rcases List.mem_append.1 hx with q | q
    · exact h.fit.v.rng x q
    · rw [List.mem_singleton.1 q]; decide
  · have := h.fit.sum
    rw [List.count_append, List.length_append]
    simp; omega
  · have := h.may.mono (n' := n + 1) (by omega) []
    rwa [List.append_nil] at this
theorem SInv.mark {n : Int} {vals : List Int} {cls : List (List Int × Int × Int)} {marks : List S48} {cs : List (List Int)} (h : SInv n vals cls marks cs) (m : S48) (hb : litB n m.f0 = true) (h0 : valL vals m.f0 = 0) (hf : fitsB n cs marks m = true) : SInv n (markV vals m.f0) cls (marks ++ [m]) cs := by
  have hl := h.len
  have hn := h.n0
  have hr := litB_iff.1 hb
  exact ⟨h.fit.mark m (by omega) (by omega) h0, h.ecs, h.cl, h.t.mark m hr.1 (by omega) (by omega) h0, .snoc _ _ h.may hf, h.n0⟩
theorem SInv.dec {n : Int} {vals : List Int} {cls : List (List Int × Int × Int)} {marks : List S48} {cs : List (List Int)} (h : SInv n vals cls marks cs) {l : Int} (hb : litB n l = true) (h0 : valL vals l = 0) : SInv n (markV vals l) cls (marks ++ [⟨l, lvl marks + 1, -1⟩]) cs := by
  refine h.mark ⟨l, lvl marks + 1, -1⟩ hb h0 ?_
  unfold fitsB
  have := openB_val h (litB_iff.1 hb).1
  simp [hb, this, h0]
theorem SInv.force {n : Int} {vals : List Int} {cls : List (List Int × Int × Int)} {marks : List S48} {cs : List (List Int)} (h : SInv n vals cls marks cs) {l : Int} (hb : litB n l = true) {i : Nat} {c : List Int} (hi : cs[i]? = some c) (hf : forcesV vals c l = true) : SInv n (markV vals l) cls (marks ++ [⟨l, lvl marks, (i : Int)⟩]) cs := by
  have hl0 := (litB_iff.1 hb).1
  have h0 : valL vals l = 0 := by
    unfold forcesV at hf
    simp only [Bool.and_eq_true, decide_eq_true_eq] at hf
    exact hf.2
  refine h.mark ⟨l, lvl marks, (i : Int)⟩ hb h0 ?_
  have ho := openB_val h hl0
  rw [forcesV_B h (List.mem_of_getElem? hi) hl0] at hf
  unfold fitsB forceB
  dsimp only
  rw [if_neg (by omega), Int.toNat_natCast, hi]
  simp [hb, ho, h0, hf]
theorem set0_count : ∀ (l : List Int) (i : Nat), (l.set i 0).count 0 ≤ l.count 0 + 1
  | [], i => by simp
  | x :: xs, 0 => by
    rw [List.set_cons_zero, List.count_cons, List.count_cons]
    simp
  | x :: xs, i + 1 => by
    have := set0_count xs i
    rw [List.set_cons_succ, List.count_cons, List.count_cons]
    omega
theorem Fit.pop {vals : List Int} {cls : List (List Int × Int × Int)} {ms : List S48} {m : S48} (h : Fit vals cls (ms ++ [m])) (i : Nat) : Fit (vals.set i 0) cls ms := by
  have h1 := h.sum
  have h2 := set0_count vals i
  refine ⟨⟨by rw [List.length_set]; exact h.v.pos, by rw [List.length_set]; exact h.v.max, fun x hx => ?_⟩, fun x hx => by rw [litsOk_len (vals := vals) (vals' := vals.set i 0) (by rw [List.length_set])]; exact h.lit x hx, h.at_, h.cap, ?_⟩
  · rcases List.mem_or_eq_of_mem_set hx with q | q
    · exact h.v.rng x q
    · rw [q]; decide
  · rw [List.length_append, List.length_singleton] at h1
    rw [List.length_set]; omega
theorem back_fit {cls : List (List Int × Int × Int)} (level : Int) : ∀ (k : Nat) (ms : List S48) (vals : List Int), ms.length = k → Fit vals cls ms → Fit (backF level k (vals, ms)).1 cls (backF level k (vals, ms)).2 := by
  intro k
  induction k with
  | zero => intro ms vals _ h; exact h
  | succ k ih =>
    intro ms vals he h
    rw [backF]
    split
    · rcases snoc_cases ms with q | ⟨ms', m, rfl⟩
      · subst q; cases he
      · rw [popU_snoc]
        rw [List.length_append, List.length_singleton] at he
        exact ih ms' _ (by omega) (h.pop _)
    · exact h
theorem SInv.back {n : Int} {vals : List Int} {cls : List (List Int × Int × Int)} {marks : List S48} {cs : List (List Int)} (h : SInv n vals cls marks cs) {N : Int} (h0 : 0 ≤ N) : (backF N marks.length (vals, marks)).2 = marks.filter (fun m => decide (m.f1 ≤ N)) ∧ SInv n (backF N marks.length (vals, marks)).1 cls (backF N marks.length (vals, marks)).2 cs := by
  obtain ⟨vals', e1, e2, e3⟩ := back_says N h0 h.may vals h.t
  have hf := back_fit N marks.length marks vals rfl h.fit
  rw [e1] at hf ⊢
  exact ⟨rfl, hf, h.ecs, h.cl, e2, e3, h.n0⟩
theorem Mod.push {w0 w3 w2 : World} {P0 oP : Nat → Prop} {vl vm vm' : Value} {ml : List (List Int)} {mm mm' : List S48} (h : Mod w0 w3 P0 vl vm ml mm) (hg : w3.grownBy w2 vm.ownBlock) (hat : vm'.ownBlock = vm.ownBlock ∨ ∃ b, vm'.ownBlock = some b ∧ w3.heap.size ≤ b) (ho : Kd.R k48 48 w2 0 oP vm' mm') (hk : ∀ k, P0 k → oP k) {p : Addr} (hp : ¬ oP p.block) (u : Value) : Mod w0 (w2.setCell p u) oP vl vm' ml mm' := by
  have hs : ∀ k, oP k → (w2.setCell p u).heap[k]? = w2.heap[k]? := fun k q => Below.heap_setCell w2 p u k (fun e => hp (e ▸ q))
  refine ⟨?_, Kd.R_step ho (fun k q _ => hs k q)⟩
  refine Kd.R_mono (Kd.R_step (Kd.R_bound h.rl) (fun k q hlt => ?_)) (fun k q => ⟨hk k q.1.1, ?_⟩)
  · rw [hs k (hk k q.1.1)]; exact hg.block k hlt q.1.2
  · rcases hat with e | ⟨b, e, hb⟩
    · rw [e]; exact q.1.2
    · intro e2
      rw [e] at e2
      injection e2 with e2
      have := q.2.2.1
      omega
theorem R_ownM {w : World} {base : Nat} {ok : Nat → Prop} {v : Value} {xs : List S48} (h : Kd.R k48 48 w base ok v xs) : Kd.R k48 48 w base (fun k => v.ownBlock = some k) v xs := by
  obtain ⟨h0, inner, ho, hr⟩ := h
  refine ⟨fun k hk => hk, inner, ho, hr.imp_ (fun _ _ hp => Kd.M_mono _ (fun k hk => ?_) (Kd.M_bound _ hp))⟩
  obtain ⟨_, _, _, q, hq, _⟩ := hk
  exact absurd (show q ∈ ([] : List Nat) from hq) List.not_mem_nil
theorem Mod.pushL {w0 w3 w5 w6 : World} {P0 oP : Nat → Prop} {vl vl' vm : Value} {ml ml' : List (List Int)} {mm : List S48} (h : Mod w0 w3 P0 vl vm ml mm) (hb : Below w3.heap.size w3 w5) (hg : w5.grownBy w6 vl.ownBlock) (ho : Kd.R (kC w0) 34 w6 0 (fun k => oP k ∧ some k ≠ vm.ownBlock) vl' ml') (hk : ∀ k, P0 k → oP k) {p : Addr} (hp : ¬ oP p.block) (u : Value) : Mod w0 (w6.setCell p u) oP vl' vm ml' mm := by
  have hs : ∀ k, oP k → (w6.setCell p u).heap[k]? = w6.heap[k]? := fun k q => Below.heap_setCell w6 p u k (fun e => hp (e ▸ q))
  refine ⟨Kd.R_step ho (fun k q _ => hs k q.1), Kd.R_mono (Kd.R_step (R_ownM h.rm) (fun k q hlt => ?_)) (fun k q => hk k (h.rm.1 k q))⟩
  rw [hs k (hk k (h.rm.1 k q)), hg.block k (Nat.lt_of_lt_of_le hlt hb.size) (fun e => (h.rl.1 k e.symm).2 q.symm), hb.block k hlt]
theorem Mod.putM {w0 w3 w2 : World} {P0 oP : Nat → Prop} {vl vm vm' : Value} {ml : List (List Int)} {mm mm' : List S48} (h : Mod w0 w3 P0 vl vm ml mm) (hb : ∀ k, P0 k → k < w3.heap.size → w2.heap[k]? = w3.heap[k]?) (ho : Kd.R k48 48 w2 0 oP vm' mm') (hk : ∀ k, P0 k → oP k) (hat : ∀ k, vm'.ownBlock = some k → P0 k → k < w3.heap.size → False) : Mod w0 w2 oP vl vm' ml mm' :=
  ⟨Kd.R_mono (Kd.R_step (Kd.R_bound h.rl) (fun k q hlt => hb k q.1.1 hlt)) (fun k q => ⟨hk k q.1.1, fun e => hat k e.symm q.1.1 q.2.2.1⟩), ho⟩

/-! ### a region whose last operation waits for all others: that operation done in the post -/
section
variable {P : Program} {md : Region.Mode}
theorem wp_swap {o : Oper} {a : Act} {w : World} {K K' : Act → World → Prop} {Q Q' : Exit → Act → World → Prop} (h : ∀ a w, K a w → K' a w) (hp : ∀ c a w, Q' (.panic c) a w → Q (.panic c) a w) (hl : LetsOut Q' → LetsOut Q)
    (hh : o.wp P a w K Q') : o.wp P a w K' Q := by
  unfold Oper.wp at *
  generalize (execOp a.eval o).run P w = r at *
  cases r with
  | ok n w' =>
    cases n <;> simp only [Oper.upon] at hh ⊢ <;>
      first
        | exact h _ _ hh
        | exact Calls.mono hh (fun e w'' he => by cases e <;> first | exact h _ _ he | exact hp _ _ _ he | exact hl he)
        | exact Rows.mono hh (fun _ _ he => h _ _ he)
  | halt x w' => cases x <;> simp only [Oper.upon] at hh ⊢ <;> first | exact hp _ _ _ hh | exact hh
/-- The post behind all but the last operation: that operation is run, then Q. -/
def PostOf (P : Program) (o : Oper) (Q : Exit → Act → World → Prop) : Exit → Act → World → Prop
  | .normal, a, w => o.wp P a w (fun a w => Q .normal a w) Q
  | e, a, w => Q e a w
theorem wpAny_swap {ops ops' : Array Oper} {n : Nat} {o o' : Oper} {Q : Exit → Act → World → Prop} (hr : ∀ listed, Region.ready md ops' listed = Region.ready md ops listed) (hs : ∀ i, i ≠ n → ops'[i]? = ops[i]?) (hy : ∀ t, yielded ops' t = yielded ops t) (ho : ops[n]? = some o) (ho' : ops'[n]? = some o')
    (hw : ∀ t, Region.wanted o (yielded ops t) = true) (hno : ∀ a w K Q, o'.wp P a w K Q → K a w) (hna : ∀ a w, ¬ o'.asks P a w) (hw' : ∀ t, Region.wanted o' (yielded ops' t) = true)
    (hlast : ∀ listed : Array Bool, listed.size = ops.size → n ∈ Region.ready md ops listed → ∀ l', l' = listed.setIfInBounds n true → Region.ready md ops l' = []) (hlive : ∀ listed : Array Bool, listed.size = ops.size → listed.getD n true = false → Region.ready md ops listed ≠ []) (hself : ∀ listed : Array Bool, ∀ i, i ≠ n → (listed.setIfInBounds i true).getD n true = listed.getD n true) :
    ∀ (fuel : Nat) (listed : Array Bool) (a : Act) (w : World), listed.size = ops.size → listed.getD n true = false → wpAny P md ops' (PostOf P o Q) fuel listed a w → wpAny P md ops Q fuel listed a w := by
  intro fuel
  induction fuel with
  | zero =>
    intro listed a w hz hn h
    exact absurd ((hr listed) ▸ h.1) (hlive listed hz hn)
  | succ fuel ih =>
    intro listed a w hz hn h
    refine ⟨fun e => absurd e (hlive listed hz hn), fun i hi => ?_⟩
    have h2 := h.2 i ((hr listed).symm ▸ hi)
    by_cases hin : i = n
    · subst hin
      have hemp := hlast listed hz hi _ rfl
      unfold wpOp at h2 ⊢
      rw [ho'] at h2
      rw [ho]
      simp only [hw', if_true] at h2
      simp only [hw, if_true]
      rcases h2 with h2 | h2
      · have h3 := hno _ _ _ _ h2
        have h4 : PostOf P o Q .normal a w := by
          cases fuel with
          | zero => exact h3.2
          | succ f => exact h3.1 ((hr _).trans hemp)
        refine .inl (Oper.wp_mono (fun a' w' hq => ?_) h4)
        cases fuel with
        | zero => exact ⟨hemp, hq⟩
        | succ f => exact ⟨fun _ => hq, fun j hj => by rw [hemp] at hj; cases hj⟩
      · exact absurd h2.1 (hna a w)
    · have hk : ∀ a w, wpAny P md ops' (PostOf P o Q) fuel (listed.setIfInBounds i true) a w → wpAny P md ops Q fuel (listed.setIfInBounds i true) a w := fun a w => ih _ a w (by simpa using hz) ((hself listed i hin).trans hn)
      have hlo : LetsOut (PostOf P o Q) → LetsOut Q := fun q => q
      unfold wpOp at h2 ⊢
      rw [hs i hin] at h2
      cases hoi : ops[i]? with
      | none => rw [hoi] at h2; exact hk _ _ h2
      | some oi =>
        rw [hoi] at h2
        dsimp only at h2 ⊢
        rw [hy] at h2
        by_cases hwi : Region.wanted oi (yielded ops a.tmps) = true
        · rw [if_pos hwi] at h2 ⊢
          exact h2.imp (wp_swap hk (fun _ _ _ q => q) hlo) (fun q => ⟨q.1, hlo q.2⟩)
        · rw [if_neg hwi] at h2 ⊢
          exact hk _ _ h2
end

section
variable {P : Program} {md : Region.Mode}
theorem getD_set_ne (l : Array Bool) {i n : Nat} (h : i ≠ n) : (l.setIfInBounds i true).getD n true = l.getD n true := by
  simp only [Array.getD_eq_getD_getElem?]
  rw [Array.getElem?_setIfInBounds_ne h]
theorem getD_set_self (l : Array Bool) (n : Nat) : (l.setIfInBounds n true).getD n true = true := by
  simp only [Array.getD_eq_getD_getElem?, Array.getElem?_setIfInBounds_self]
  split <;> rfl
theorem ready_set {ops : Array Oper} {n : Nat} {o o' : Oper} (ho : ops[n]? = some o) (ha : o'.after = o.after) (listed : Array Bool) : Region.ready md (ops.setIfInBounds n o') listed = Region.ready md ops listed := by
  have hn : n < ops.size := (Array.getElem?_eq_some_iff.1 ho).1
  unfold Region.ready
  rw [Array.size_setIfInBounds]
  refine List.filter_congr (fun i _ => ?_)
  by_cases h : n = i
  · subst h
    rw [Array.getElem?_setIfInBounds_self, if_pos hn, ho]
    simp only [Option.map_some, ha]
  · rw [Array.getElem?_setIfInBounds_ne h]
theorem yielded_set {ops : Array Oper} {n : Nat} {o o' : Oper} (ho : ops[n]? = some o) (hd : o'.dst = o.dst) (t : Array Value) : yielded (ops.setIfInBounds n o') t = yielded ops t := by
  have hn : n < ops.size := (Array.getElem?_eq_some_iff.1 ho).1
  funext j
  unfold yielded
  by_cases h : n = j
  · subst h
    rw [Array.getElem?_setIfInBounds_self, if_pos hn, ho]
    simp only [Option.bind_some, hd]
  · rw [Array.getElem?_setIfInBounds_ne h]
/-- Each operation waits for earlier ones alone; the last for all others. -/
def backOk (ops : Array Oper) : Bool := (List.range ops.size).all fun i => match ops[i]? with
  | some o => o.after.all fun e => decide (e.on < i)
  | none => true
def lastOk (md : Region.Mode) (n : Nat) (o : Oper) : Bool := (List.range n).all fun i => o.after.any fun e => Region.binds md e && e.on == i
theorem least_false {p : Nat → Bool} : ∀ n, p n = false → ∃ i, i ≤ n ∧ p i = false ∧ ∀ j, j < i → p j = true := by
  intro n
  induction n using Nat.strongRecOn with
  | ind n ih =>
    intro h
    by_cases q : ∃ j, j < n ∧ p j = false
    · obtain ⟨j, hj, hp⟩ := q
      obtain ⟨i, h1, h2, h3⟩ := ih j hj hp
      exact ⟨i, by omega, h2, h3⟩
    · exact ⟨n, Nat.le_refl _, h, fun j hj => by
        cases hp : p j with
        | true => rfl
        | false => exact absurd ⟨j, hj, hp⟩ q⟩
theorem ready_live {ops : Array Oper} (hb : backOk ops = true) {n : Nat} (hn : n < ops.size) (listed : Array Bool) (h : listed.getD n true = false) : Region.ready md ops listed ≠ [] := by
  obtain ⟨i, h3, h1, h2⟩ := least_false (p := fun i => listed.getD i true) n h
  have hi : i < ops.size := by omega
  intro he
  have hmem : i ∈ Region.ready md ops listed := by
    unfold Region.ready
    rw [List.mem_filter]
    refine ⟨List.mem_range.2 hi, ?_⟩
    have hbi := List.all_eq_true.1 hb i (List.mem_range.2 hi)
    rw [Array.getElem?_eq_getElem hi] at hbi ⊢
    simp only [Option.map_some, Option.getD_some, h1, Bool.not_false, Bool.true_and]
    rw [Array.all_eq_true_iff_forall_mem] at hbi ⊢
    intro e hem
    have := of_decide_eq_true (hbi e hem)
    have h4 := h2 e.on this
    have h5 : listed.getD e.on false = true := by
      simp only [Array.getD_eq_getD_getElem?] at h4 ⊢
      cases hl : listed[e.on]? with
      | some b => rw [hl] at h4; simpa using h4
      | none =>
        exfalso
        have hge := Array.getElem?_eq_none_iff.1 hl
        have : listed.getD i true = true := by
          simp only [Array.getD_eq_getD_getElem?]
          rw [Array.getElem?_eq_none (by omega)]; rfl
        rw [this] at h1; cases h1
    rw [h5, Bool.or_true]
  rw [he] at hmem; cases hmem
theorem ready_last {ops : Array Oper} {n : Nat} {o : Oper} (ho : ops[n]? = some o) (hz : ops.size = n + 1) (hl : lastOk md n o = true) (listed : Array Bool) (h : n ∈ Region.ready md ops listed) : Region.ready md ops (listed.setIfInBounds n true) = [] := by
  unfold Region.ready at h ⊢
  rw [List.mem_filter] at h
  have h2 := h.2
  rw [ho] at h2
  simp only [Option.map_some, Option.getD_some, Bool.and_eq_true] at h2
  have h3 := Array.all_eq_true_iff_forall_mem.1 h2.2
  rw [List.filter_eq_nil_iff]
  intro i hi
  rw [List.mem_range, hz] at hi
  have h4 : (listed.setIfInBounds n true).getD i true = true := by
    by_cases hin : i = n
    · subst hin; exact getD_set_self _ _
    · rw [getD_set_ne _ (fun e => hin e.symm)]
      have hli := List.all_eq_true.1 hl i (List.mem_range.2 (by omega))
      obtain ⟨k, hk, hq⟩ := Array.any_eq_true.1 hli
      have he := Array.getElem_mem hk
      generalize o.after[k] = e at he hq
      simp only [Bool.and_eq_true, beq_iff_eq] at hq
      have h5 := h3 e he
      rw [hq.1, hq.2] at h5
      simp only [Bool.not_true, Bool.false_or] at h5
      simp only [Array.getD_eq_getD_getElem?] at h5 ⊢
      cases hl2 : listed[i]? with
      | some b => rw [hl2] at h5; simpa using h5
      | none => rfl
  rw [h4]
  simp
theorem region_swap {ops : Array Oper} {id n : Nat} {o o' : Oper} {Q : Exit → Act → World → Prop} {a : Act} {w : World} (hm : P.follows .mixedOrders = true) (hz : ops.size = n + 1) (ho : ops[n]? = some o) (ha : o'.after = o.after) (hd : o'.dst = o.dst) (hg : o.guard = none) (hg' : o'.guard = none) (hb : backOk ops = true) (hl : lastOk .any n o = true)
    (hno : ∀ a w K Q, o'.wp P a w K Q → K a w) (hna : ∀ a w, ¬ o'.asks P a w)
    (h : wpAny P .any (ops.setIfInBounds n o') (PostOf P o Q) ops.size (Array.replicate ops.size false) a w.drew) : (Code.region id ops true).wp P Q a w := by
  have hn : n < ops.size := by omega
  refine wp_region_any hm ?_
  refine wpAny_swap (n := n) (o := o) (o' := o') (fun l => ready_set ho ha l) (fun i hi => Array.getElem?_setIfInBounds_ne (fun e => hi e.symm)) (fun t => yielded_set ho hd t) ho (by rw [Array.getElem?_setIfInBounds_self, if_pos hn]) (fun t => by simp [Region.wanted, hg]) hno hna (fun t => by simp [Region.wanted, hg']) (fun listed _ hr l' e => by rw [e]; exact ready_last ho hz hl listed hr) (fun listed _ hq => ready_live hb hn listed hq) (fun listed i hi => getD_set_ne _ hi) ops.size _ a _ (by simp) (by simp [Array.getD_eq_getD_getElem?, hn]) h
end

section
variable {P : Program}
def nopOf (o : Oper) : Oper := { o with op := .assign (.const (.bool true)) }
theorem nop_run (o : Oper) (a : Act) (w : World) : (execOp a.eval (nopOf o)).run P w = .ok (.value (.bool true)) w := by
  simp [nopOf, execOp, go_sem]
theorem nop_wp (o : Oper) (hd : o.dst = none) (a : Act) (w : World) (K : Act → World → Prop) (Q : Exit → Act → World → Prop) (h : (nopOf o).wp P a w K Q) : K a w := by
  unfold Oper.wp at h
  rw [nop_run] at h
  have h2 : K (a.put o.dst (.bool true)) w := h
  rw [hd] at h2
  exact h2
theorem nop_asks (o : Oper) (a : Act) (w : World) : ¬ (nopOf o).asks P a w := by
  intro h
  have h1 := h.1
  simp [nopOf, execOp, go_sem] at h1
  have h2 : noRoomEvent ∈ (#[] : Array _) := h1
  simp at h2
theorem region_swapN {ops : Array Oper} {id n : Nat} {o : Oper} {Q : Exit → Act → World → Prop} {a : Act} {w : World} (S : World → Prop) (hm : P.follows .mixedOrders = true) (hz : ops.size = n + 1) (ho : ops[n]? = some o) (hd : o.dst = none) (hg : o.guard = none) (hb : backOk ops = true) (hl : lastOk .any n o = true)
    (h : wpAnyH P .any (ops.setIfInBounds n (nopOf o)) (PostOf P o Q) S ops.size (Array.replicate ops.size false) a w.drew) : (Code.region id ops true).wp P Q a w :=
  region_swap hm hz ho (o' := nopOf o) rfl rfl hg hg hb hl (fun a w K Q => nop_wp o hd a w K Q) (fun a w => nop_asks o a w) (wpAny_of_held _ _ _ _ h)
end

end Go.Proofs.Ytegaaobiedfjcaa.PU
