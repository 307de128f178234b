import Derived.Test.YtegaaobiedfjcaaStX
import Derived.ArgAppend
import Derived.Deep.DeepAppendRoom
import Derived.Deep.RegionHeld3
import Derived.Deep.RegionWith
import Derived.BigQuiet
import Derived.Deep.QuietTactic
import Derived.Test.YtegaaobiedfjcaaHStep
namespace Go.Proofs.Ytegaaobiedfjcaa.PU
open Go.RowKit Go.Proofs.YtegaaobiedfjcaaW.PrintWords Go.Proofs.YtegaaobiedfjcaaW.PrintLast Go.Proofs.YtegaaobiedfjcaaW.PrintMore Go.Proofs.YtegaaobiedfjcaaH
set_option linter.unusedVariables false
set_option linter.unusedSimpArgs false
/-! ### Load's decision -/
def mayF (n : Int) (cs : List (List Int)) : List S48 → List S48 → Bool
  | _, [] => true
  | pre, m :: rest => fitsB n cs pre m && mayF n cs (pre ++ [m]) rest
def loadE (n : Int) (l : List (List Int)) (ms : List S48) : Int :=
  if n < 0 then 1 else if 262144 < n then 2 else if l.all (fun c => c.all (litB n)) = true then (if mayF n l [] ms = true then 0 else 200) else 180
theorem mayF_may {n : Int} {cs : List (List Int)} : ∀ (rest pre : List S48), MayL n cs pre → mayF n cs pre rest = true → MayL n cs (pre ++ rest) := by
  intro rest
  induction rest with
  | nil => intro pre h _; rw [List.append_nil]; exact h
  | cons m rest ih =>
    intro pre h hm
    simp only [mayF, Bool.and_eq_true] at hm
    have := ih (pre ++ [m]) (.snoc pre m h hm.1) hm.2
    rwa [List.append_assoc] at this
theorem mayF_open {n : Int} {cs : List (List Int)} {pre : List S48} {m : S48} {rest : List S48} : mayF n cs pre (m :: rest) = (fitsB n cs pre m && mayF n cs (pre ++ [m]) rest) := rfl
theorem may_ev {n : Int} {cs : List (List Int)} (h0 : 0 ≤ n) (h1 : n ≤ 262144) (hc : CsOk cs) (ms : List S48) (hn : ms.length ≤ 4194304) : ∀ d i : Nat, i + d = ms.length → MayL n cs (ms.take i) → Ev (fun k => fulcrumref20_May.l0 k n cs ms (i : Int)) (mayF n cs (ms.take i) (ms.drop i)) := by
  intro d
  induction d with
  | zero =>
    intro i h _
    refine Ev.step (f := fun _ => some true) (fun k => ?_) ?_
    · simp only [fulcrumref20_May.l0]; rw [if_neg (by omega)]
    · rw [List.drop_eq_nil_of_le (by omega)]; exact Ev.now _
  | succ d ih =>
    intro i h hm
    have hlt : i < ms.length := by omega
    have hl := hm.lvl
    have htl : (ms.take i).length = i := by rw [List.length_take]; omega
    have htk : ms.take (i + 1) = ms.take i ++ [rd_T48 ms (i : Int)] := by
      rw [List.take_add_one, rdm_get hlt]; rfl
    have hF := Fits_all n h0 (by omega) cs (ms.take i) (rd_T48 ms (i : Int)) (by omega) hc (by omega)
    rw [rdm_drop hlt, mayF_open, ← htk]
    refine Ev.step (f := fun k => (fulcrumref20_Fits.f k n cs (ms.take i) (rd_T48 ms (i : Int)).f0 (rd_T48 ms (i : Int)).f1 (rd_T48 ms (i : Int)).f2).bind fun t => (if t = true then (fulcrumref20_May.l0 k n cs ms ((i + 1 : Nat) : Int)) else (some false))) (fun k => ?_) (Ev.bind hF ?_)
    · simp only [fulcrumref20_May.l0]
      rw [if_pos (by omega), if_pos (by omega), if_pos (by omega), wrapI hlt (by omega), Int.toNat_natCast]
    · cases hb : fitsB n cs (ms.take i) (rd_T48 ms (i : Int)) with
      | true =>
        simp only [if_true, Bool.true_and]
        refine ih (i + 1) (by omega) ?_
        rw [htk]; exact .snoc _ _ hm hb
      | false =>
        simp only [Bool.false_eq_true, if_false, Bool.false_and]
        exact Ev.now _
theorem may_all {n : Int} {cs : List (List Int)} (h0 : 0 ≤ n) (h1 : n ≤ 262144) (hc : CsOk cs) (ms : List S48) (hn : ms.length ≤ 4194304) : Ev (fun k => fulcrumref20_May.f k n cs ms) (mayF n cs [] ms) := by
  have := may_ev h0 h1 hc ms hn ms.length 0 (by omega) MayL.nil
  simpa [fulcrumref20_May.f] using this
theorem load_ev {n : Int} (h0 : 0 ≤ n) (h1 : n ≤ 262144) (l : List (List Int)) (ms : List S48) (hn : ms.length ≤ 4194304) (hl : l.length ≤ 4194304) (hcl : ∀ c ∈ l, c.length ≤ 4194304) : ∀ d i : Nat, i + d = l.length → (∀ c ∈ l.take i, c.all (litB n) = true) → Ev (fun k => fulcrumref20_Load.l0 k n l ms (i : Int)) (if (l.drop i).all (fun c => c.all (litB n)) = true then (if mayF n l [] ms = true then 0 else 200) else 180) := by
  intro d
  induction d with
  | zero =>
    intro i h hp
    have hpl : ∀ c ∈ l, c.all (litB n) = true := by rw [List.take_of_length_le (by omega)] at hp; exact hp
    have hcs : CsOk l := litsIn_ok (N := (n + 1).toNat) (fun c hc x hx => by have := litB_iff.1 (List.all_eq_true.1 (hpl c hc) x hx); omega) (by omega) (by omega) (fun c hc => by have := hcl c hc; omega)
    refine Ev.step (f := fun k => (fulcrumref20_May.f k n l ms).bind fun t => (if t = true then (some 0) else (some 200))) (fun k => ?_) (Ev.bind (may_all h0 h1 hcs ms hn) ?_)
    · simp only [fulcrumref20_Load.l0]; rw [if_neg (by omega)]
    · rw [List.drop_eq_nil_of_le (by omega)]
      simp only [List.all_nil, if_true]
      split <;> exact Ev.now _
  | succ d ih =>
    intro i h hp
    have hlt : i < l.length := by omega
    obtain ⟨c, hc⟩ : ∃ c, c = rd_L2 l (i : Int) := ⟨_, rfl⟩
    have hcm : c ∈ l := hc ▸ rdl_mem hlt
    have hC := Clause_ev c n h0 (by omega) (by have := hcl c hcm; omega) c.length 0 (by omega)
    rw [List.drop_zero] at hC
    rw [rdl_drop hlt, ← hc, List.all_cons]
    refine Ev.step (f := fun k => (fulcrumref20_Clause.f k c n).bind fun t => (if t = true then (fulcrumref20_Load.l0 k n l ms ((i + 1 : Nat) : Int)) else (some 180))) (fun k => ?_) (Ev.bind (a := c.all (litB n)) hC ?_)
    · simp only [fulcrumref20_Load.l0]
      rw [if_pos (by omega), if_pos (by omega), wrapI hlt (by omega), ← hc]
    · cases hb : c.all (litB n) with
      | true =>
        simp only [if_true, Bool.true_and]
        refine ih (i + 1) (by omega) (fun c' hc' => ?_)
        rw [take_rd2 hlt, ← hc] at hc'
        rcases List.mem_append.1 hc' with q | q
        · exact hp c' q
        · rw [List.mem_singleton.1 q]; exact hb
      | false =>
        simp only [Bool.false_eq_true, if_false, Bool.false_and]
        exact Ev.now _
theorem load_all (n : Int) (l : List (List Int)) (ms : List S48) (hn : ms.length ≤ 4194304) (hl : l.length ≤ 1048576) (hcl : ∀ c ∈ l, c.length ≤ 4194304) : Ev (fun k => fulcrumref20_Load.f k n l ms) (loadE n l ms) := by
  unfold fulcrumref20_Load.f loadE
  by_cases h0 : n < 0
  · simp only [if_pos h0]; exact Ev.now _
  · by_cases h1 : 262144 < n
    · simp only [if_neg h0, if_pos h1, gt_iff_lt]
      refine Ev.step (f := fun _ => some 2) (fun k => ?_) (Ev.now _)
      simp only [fulcrumref20_Load.j0]; rfl
    · simp only [if_neg h0, if_neg h1, gt_iff_lt]
      have hd : decide ((1048576 : Int) < (l.length : Int)) = false := decide_eq_false (by omega)
      refine Ev.step (f := fun k => fulcrumref20_Load.l0 k n l ms 0) (fun k => ?_) ?_
      · simp only [fulcrumref20_Load.j0, hd]; rfl
      · have := load_ev (n := n) (by omega) (by omega) l ms hn (by omega) hcl l.length 0 (by omega) (fun c hc => by simp at hc)
        simpa using this

/-! ### rows of which only the form is known -/
/-- A slice of n elements of type e (sz cells each) at the head of a block that is as great as its capacity, from base on. -/
def Shp (e sz base : Nat) (w : World) (v : Value) (n : Nat) : Prop :=
  (v = .slice none 0 0 ∧ n = 0) ∨ ∃ g c cur, v = .slice (some ⟨g, 0, none⟩) n c ∧ base ≤ g ∧ w.heap[g]? = some (.cells cur e (0, 0)) ∧ n ≤ c ∧ c ≤ maxLen ∧ cur.size = c * sz
/-- What keeps each block's form. -/
def Forms (base : Nat) (w w' : World) : Prop := ∀ (g e : Nat) (cur : Array Value), base ≤ g → w.heap[g]? = some (.cells cur e (0, 0)) → ∃ cur', w'.heap[g]? = some (.cells cur' e (0, 0)) ∧ cur'.size = cur.size
theorem Forms.refl (base : Nat) (w : World) : Forms base w w := fun _ _ cur _ h => ⟨cur, h, rfl⟩
theorem Forms.trans {base : Nat} {w w1 w2 : World} (h : Forms base w w1) (h2 : Forms base w1 w2) : Forms base w w2 := fun g e cur hb hg => by
  obtain ⟨c1, h3, h4⟩ := h g e cur hb hg
  obtain ⟨c2, h5, h6⟩ := h2 g e c1 hb h3
  exact ⟨c2, h5, h6.trans h4⟩
theorem Forms.of_below {base : Nat} {w w' : World} (h : Below w.heap.size w w') : Forms base w w' := fun g e cur _ hg => ⟨cur, (h.block g (blk_lt hg)).trans hg, rfl⟩
theorem Forms.set (base : Nat) (w : World) (g j : Nat) (u : Value) : Forms base w (w.setCell ⟨g, j, none⟩ u) := fun k e cur _ hk => by
  by_cases he : k = g
  · subst he
    exact ⟨_, blk_set hk j u, by simp⟩
  · exact ⟨cur, by rw [Below.heap_setCell w ⟨g, j, none⟩ u k he]; exact hk, rfl⟩
theorem Shp.forms {e sz base : Nat} {w w' : World} {v : Value} {n : Nat} (h : Shp e sz base w v n) (hf : Forms base w w') : Shp e sz base w' v n := by
  rcases h with h | ⟨g, c, cur, h1, h2, h3, h4, h5, h6⟩
  · exact .inl h
  · obtain ⟨cur', h7, h8⟩ := hf g e cur h2 h3
    exact .inr ⟨g, c, cur', h1, h2, h7, h4, h5, h8.trans h6⟩
theorem Shp.of_own {e sz base b0 : Nat} {w : World} {v : Value} {n : Nat} {xs : List Value} (h : w.ownsRow base e sz v n xs) (hb : b0 ≤ base) : Shp e sz b0 w v n := by
  rcases h.2 with h | ⟨g, c, cur, h1, h2, h3, h4, h5, h6, _⟩
  · exact .inl h
  · exact .inr ⟨g, c, cur, h1, Nat.le_trans hb h2, h3, h4, h5, h6⟩
theorem Shp.slice {e sz base : Nat} {w : World} {v : Value} {n : Nat} (h : Shp e sz base w v n) : ∃ A c, v = .slice A n c ∧ (0 < n → ∃ g, A = some ⟨g, 0, none⟩ ∧ base ≤ g) := by
  rcases h with ⟨h1, h2⟩ | ⟨g, c, cur, h1, h2, _⟩
  · exact ⟨none, 0, by rw [h1, h2], fun h => by omega⟩
  · exact ⟨_, c, h1, fun _ => ⟨g, rfl, h2⟩⟩
/-- A cell of a row of known form. -/
theorem Shp.cell {e sz base : Nat} {w : World} {g n c : Nat} (h : Shp e sz base w (.slice (some ⟨g, 0, none⟩) n c) n) {j : Nat} (hj : j < n * sz) : ∃ x, w.cell? ⟨g, j, none⟩ = some x ∧ w.frozen? ⟨g, j, none⟩ = false := by
  rcases h with ⟨h1, _⟩ | ⟨g', c', cur, h1, h2, h3, h4, h5, h6⟩
  · cases h1
  · simp only [Value.slice.injEq, Option.some.injEq, Addr.mk.injEq] at h1
    obtain ⟨⟨e1, _⟩, _, e2⟩ := h1
    subst e1 e2
    have hlt : j < cur.size := by rw [h6]; exact Nat.lt_of_lt_of_le hj (Nat.mul_le_mul_right _ h4)
    refine ⟨cur[j], ?_, blk_frozen h3 j⟩
    rw [blk_cell h3 j]
    simp [hlt]
section
variable {P : Program} {ops : Array Oper} {rest : List Oper} {o : Oper} {a : Act} {Q : Exit → Act → World → Prop}
/-- append of m elements that lie at the head of a block of their own to a row of which only the form is known. -/
theorem shp_append {W : World} {base n m : Nat} {v : Value} (hv : Shp 3 1 base W v n) (hgd : o.guard = none) (s x : Operand) (t : TypeId) {i0 : TypeInfo} {z : Value}
    (ho : o.op = .call { callee := .builtin .append, args := #[s, x], argTypes := #[t, t] }) (ht : P.underlying t = some (.slice 3)) (hinf : P.info? 3 = some i0) (hz0 : i0.zero = some z) (hz1 : i0.size = 1) (hz2 : i0.bytes = 8) (hz3 : z.cells.size = 1)
    (hs : a.eval s = v) (ad : Addr) (news : List Value) (hx : a.eval x = .slice (some ad) m m) (hl : news.length = m) (hnews : ∀ j u, news[j]? = some u → W.cell? (ad.add j) = some u) (hone : ∀ u ∈ news, u.oneCell' = true)
    (hm : 0 < m) (hn : n + m ≤ 2199023255552) (hbase : base ≤ W.heap.size)
    (hK : ∀ v' w', Shp 3 1 base w' v' (n + m) → Forms base W w' → (∀ w0, Below base w0 W → Below base w0 w') → (∀ (k e : Nat) (cur : Array Value), W.heap[k]? = some (.cells cur e (0, 0)) → e ≠ 3 → w'.heap[k]? = W.heap[k]?) → wpList P ops Q rest (a.put o.dst v') w') :
    wpList P ops Q (o :: rest) a W := by
  have full : ∀ (ao : Option Addr) (cap : Nat) (olds : List Value), v = .slice ao n cap → (ao = none → n = 0 ∧ cap = 0) → olds.length = n → (∀ b, ao = some b → ∀ j u, olds[j]? = some u → W.cell? (b.add j) = some u) → cap < n + m → wpList P ops Q (o :: rest) a W := by
    intro ao cap olds he hnn hol holds hc
    refine wpList_append_grows W hgd s x t ho 3 i0 z 1 8 ht hinf hz0 hz1 hz2 hz3 (by decide) ao n cap olds (by rw [hs, he]) hnn (by omega) holds ad m m news hx (by omega) hnews hone hc (by simp only [maxLen]; omega) (by omega) ?_
    intro v' w' ho' hg
    exact hK v' w' (Shp.of_own ho' hbase) (fun g e cur _ h => ⟨cur, (hg.block g (blk_lt h) (by simp)).trans h, rfl⟩) (fun w0 hb => hb.grown hg hbase (fun k hk => by cases hk)) (fun k e cur h _ => hg.block k (blk_lt h) (by simp))
  rcases hv with ⟨h1, h2⟩ | ⟨g, c, cur, h1, h2, h3, h4, h5, h6⟩
  · exact full none 0 [] (by rw [h1, h2]) (fun _ => ⟨h2, rfl⟩) (by simp [h2]) (fun b hb => by cases hb) (by omega)
  · rw [Nat.mul_one] at h6
    have hown : W.ownsRow base 3 1 (.slice (some ⟨g, 0, none⟩) n c) n (cur.toList.take n) := ⟨by rw [List.length_take, Array.length_toList]; omega, .inr ⟨g, c, cur, rfl, h2, h3, h4, h5, by omega, by rw [Nat.mul_one]⟩⟩
    by_cases hr : n + m ≤ c
    · refine wpList_append_own_spare (w := W) (base := base) hgd s x t ho 3 i0 1 ht hinf hz1 g n c (cur.toList.take n) (by rw [hs, h1]) hown ad m m news hx (by omega) hnews hone hr ?_
      intro w' ho' hg
      refine hK _ w' (Shp.of_own ho' (Nat.le_refl _)) (fun k e cur' hk h => ?_) (fun w0 hb => hb.grown hg hbase (fun k hk => by injection hk with hk; omega)) (fun k e cur' h hne => hg.block k (blk_lt h) (fun q => by
        injection q with q
        subst q
        rw [h3] at h
        injection h with h
        injection h with _ h8
        exact hne h8.symm))
      by_cases he : k = g
      · subst he
        rw [h3] at h
        injection h with h
        injection h with h7 h8
        rcases ho'.2 with ⟨q, _⟩ | ⟨g2, c2, cur2, q1, _, q3, _, _, q6, _⟩
        · cases q
        · simp only [Value.slice.injEq, Option.some.injEq, Addr.mk.injEq] at q1
          obtain ⟨⟨e1, _⟩, _, e2⟩ := q1
          subst e1 e2
          exact ⟨cur2, by rw [← h8]; exact q3, by rw [q6, ← h7]; omega⟩
      · exact ⟨cur', (hg.block k (blk_lt h) (fun e => he (by injection e))).trans h, rfl⟩
    · refine full (some ⟨g, 0, none⟩) c (cur.toList.take n) h1 (by simp) (by rw [List.length_take, Array.length_toList]; omega) (fun b hb j u hj => ?_) (by omega)
      injection hb with hb
      subst hb
      exact hown.cells (g := g) rfl j u hj
end
/-- The rows that Clauses told: those before k are grown, the others as they were told. -/
structure Out (base : Nat) (w : World) (g m k : Nat) : Prop where
  ge : base ≤ g
  o : ∃ cur, w.heap[g]? = some (.cells cur 34 (0, 0)) ∧ m ≤ cur.size
  r : ∀ i, i < m → ∃ v n, w.cell? ⟨g, i, none⟩ = some v ∧ Shp 3 1 base w v n ∧ (k ≤ i → n ≤ 4194304)
theorem Out.start {w : World} {base b0 : Nat} {ok : Nat → Prop} {g c : Nat} {l : List (List Int)} (h : Kd.R (Kd.slice 3 (Kd.int .i64)) 34 w base ok (.slice (some ⟨g, 0, none⟩) l.length c) l) (hb : b0 ≤ base) (hp : 0 < l.length) (hl : ∀ x ∈ l, x.length ≤ 4194304) : Out b0 w g l.length 0 := by
  obtain ⟨g', c', e, h1, h2, cur, h3⟩ := Kd.R_form h hp
  simp only [Value.slice.injEq, Option.some.injEq, Addr.mk.injEq] at e
  obtain ⟨⟨e1, _⟩, _, e2⟩ := e
  subst e1 e2
  refine ⟨Nat.le_trans hb h1, ⟨cur, h3, ?_⟩, fun i hi => ?_⟩
  · obtain ⟨inner, ho⟩ := Kd.R_own h
    rcases ho.2 with ⟨q, _⟩ | ⟨g2, c2, cur2, q1, _, q3, q4, _, q6, _⟩
    · cases q
    · simp only [Value.slice.injEq, Option.some.injEq, Addr.mk.injEq] at q1
      obtain ⟨⟨f1, _⟩, _, f2⟩ := q1
      subst f1 f2
      rw [h3] at q3
      injection q3 with q3
      injection q3 with q3
      subst q3
      rw [q6]
      show l.length ≤ c * 1
      omega
  · obtain ⟨cells, hc1, hM, hc2, _⟩ := Kd.R_elem h ([] : List Int) (i : Int) (by omega) (by omega)
    obtain ⟨v, e, hR⟩ := hM
    subst e
    have hcell : w.cell? ⟨g, i * 1 + 0, none⟩ = some v := hc2 0 v rfl
    rw [Nat.add_zero, Nat.mul_one] at hcell
    have hmem : l.getD i [] ∈ l := by rw [List.getD_eq_getElem?_getD, List.getElem?_eq_getElem hi]; exact List.getElem_mem hi
    have ho := Kd.own_of_R hR
    exact ⟨v, (l.getD i []).length, hcell, Shp.of_own ho hb, fun _ => hl _ hmem⟩
theorem Out.stored {w : World} {base g m k h j n c : Nat} (ho : Out base w g m k) (hv : Shp 3 1 base w (.slice (some ⟨h, 0, none⟩) n c) n) (u : Value) : Out base (w.setCell ⟨h, j, none⟩ u) g m k := by
  have hne : g ≠ h := by
    intro e
    subst e
    obtain ⟨cur, h3, _⟩ := ho.o
    rcases hv with ⟨q, _⟩ | ⟨g2, c2, cur2, q1, _, q3, _⟩
    · cases q
    · simp only [Value.slice.injEq, Option.some.injEq, Addr.mk.injEq] at q1
      obtain ⟨⟨f1, _⟩, _⟩ := q1
      subst f1
      rw [h3] at q3
      injection q3 with q3
      injection q3 with _ q3
      exact absurd q3 (by decide)
  have hb : (w.setCell ⟨h, j, none⟩ u).heap[g]? = w.heap[g]? := Below.heap_setCell w ⟨h, j, none⟩ u g hne
  obtain ⟨cur, h3, h4⟩ := ho.o
  refine ⟨ho.ge, ⟨cur, by rw [hb]; exact h3, h4⟩, fun i hi => ?_⟩
  obtain ⟨v, n', h5, h6, h7⟩ := ho.r i hi
  exact ⟨v, n', by rw [World.cell?_of_block (a := ⟨g, i, none⟩) hb]; exact h5, h6.forms (Forms.set base w h j u), h7⟩
theorem Out.grown {w w' : World} {base g m k : Nat} (ho : Out base w g m k) (hk : k < m) (hf : Forms base w w') (hg : w'.heap[g]? = w.heap[g]?) {v' : Value} {n : Nat} (hv : Shp 3 1 base w' v' n) : Out base (w'.setCell ⟨g, k, none⟩ v') g m (k + 1) := by
  obtain ⟨cur, h3, h4⟩ := ho.o
  have h3' := hg.trans h3
  have hset := blk_set h3' k v'
  refine ⟨ho.ge, ⟨_, hset, by simpa using h4⟩, fun i hi => ?_⟩
  by_cases he : i = k
  · subst he
    refine ⟨v', n, ?_, hv.forms (Forms.set base w' g i v'), fun h => by omega⟩
    rw [blk_cell hset i]
    simp [show i < cur.size by omega]
  · obtain ⟨v, n', h5, h6, h7⟩ := ho.r i hi
    refine ⟨v, n', ?_, (h6.forms hf).forms (Forms.set base w' g k v'), fun h => h7 (by omega)⟩
    rw [blk_cell hset i]
    rw [blk_cell h3 i] at h5
    simpa [Array.getElem?_setIfInBounds, show k ≠ i from fun e => he e.symm] using h5
theorem Out.ne {w : World} {base g m k h n c : Nat} (ho : Out base w g m k) (hv : Shp 3 1 base w (.slice (some ⟨h, 0, none⟩) n c) n) : g ≠ h := by
  intro e
  subst e
  obtain ⟨cur, h3, _⟩ := ho.o
  rcases hv with ⟨q, _⟩ | ⟨g2, c2, cur2, q1, _, q3, _⟩
  · cases q
  · simp only [Value.slice.injEq, Option.some.injEq, Addr.mk.injEq] at q1
    obtain ⟨⟨f1, _⟩, _⟩ := q1
    subst f1
    rw [h3] at q3
    injection q3 with q3
    injection q3 with _ q3
    exact absurd q3 (by decide)
theorem Out.kept {w : World} {base g m k h j n c : Nat} (ho : Out base w g m k) (hv : Shp 3 1 base w (.slice (some ⟨h, 0, none⟩) n c) n) (u : Value) (i : Nat) : (w.setCell ⟨h, j, none⟩ u).cell? ⟨g, i, none⟩ = w.cell? ⟨g, i, none⟩ :=
  World.cell?_of_block (Below.heap_setCell w ⟨h, j, none⟩ u g (ho.ne hv))
theorem Out.cell {w : World} {base g m k : Nat} (ho : Out base w g m k) {i : Nat} (hi : i < m) : ∃ A n c, w.cell? ⟨g, i, none⟩ = some (.slice A n c) ∧ w.frozen? ⟨g, i, none⟩ = false ∧ Shp 3 1 base w (.slice A n c) n ∧ (k ≤ i → n ≤ 4194304) := by
  obtain ⟨v, n, h1, h2, h3⟩ := ho.r i hi
  obtain ⟨A, c, e, _⟩ := h2.slice
  subst e
  obtain ⟨cur, h4, _⟩ := ho.o
  exact ⟨A, n, c, h1, blk_frozen h4 i, h2, h3⟩
/-- The told rows, where there are any. -/
def OutA (base : Nat) (w : World) (A : Option Addr) (m k : Nat) : Prop := 0 < m → ∃ g, A = some ⟨g, 0, none⟩ ∧ Out base w g m k
theorem OutA.start {w : World} {base : Nat} {ok : Nat → Prop} {A : Option Addr} {c : Nat} {l : List (List Int)} (h : Kd.R (Kd.slice 3 (Kd.int .i64)) 34 w base ok (.slice A l.length c) l) (hl : ∀ x ∈ l, x.length ≤ 4194304) : OutA base w A l.length 0 := fun hp => by
  obtain ⟨g, c', e, h1, h2, cur, h3⟩ := Kd.R_form h hp
  simp only [Value.slice.injEq] at e
  obtain ⟨e1, _, e2⟩ := e
  subst e1
  exact ⟨g, rfl, Out.start h (Nat.le_refl _) hp hl⟩

/-! ### append of a whole row in a drawn region -/
section
variable {P : Program} {ops : Array Oper} {o : Oper} {a : Act} {Q : Exit → Act → World → Prop} {Kc : Act → World → Prop} {α : Type}
theorem R_append_rows_law (d : Kd α) {Rr : α → List Value → Prop} {E : Prop} {w0 W : World} (base : Nat) (hgd : o.guard = none) (s x : Operand) (t e : TypeId) (z : Value) (bytes : Nat)
    (ho : o.op = .call { callee := .builtin .append, args := #[s, x], argTypes := #[t, t] })
    (ht : P.underlying t = some (.slice e)) (hinfo : (P.info? e).map (fun i => (i.zero, i.size, i.bytes)) = some (some z, d.sz, bytes)) (hz : z.cells.size = d.sz) (hs0 : 0 < d.sz) (hb0 : 0 < bytes)
    (v : Value) (xs ys : List α) (A : Option Addr) (m c : Nat) (ok okp : Nat → Prop) (hs : a.eval s = v) (hx : a.eval x = .slice A m c)
    (HO : d.R e W base ok v xs) (HR : ReadsRow Rr d.sz W A m ys) (hKM : ∀ x cs, Rr x cs → d.M W base okp x cs) (hokp : ∀ k, okp k → ok k ∧ some k ≠ v.ownBlock) (hfresh : ∀ k, W.heap.size ≤ k → ok k)
    (HB : Below base w0 W) (hbase : base ≤ W.heap.size) (hl : (xs.length + m) * bytes ≤ 140737488355328)
    (h : ∀ v1 w1, d.R e w1 base ok v1 (xs ++ ys) → Below base w0 w1 → W.grownBy w1 v.ownBlock → (v1.ownBlock = v.ownBlock ∨ ∃ b, v1.ownBlock = some b ∧ W.heap.size ≤ b) → Kc (a.put o.dst v1) w1) :
    if Region.wanted o (yielded ops a.tmps) = true then Oper.wp P o a W Kc Q else E := by
  have hw : Region.wanted o (yielded ops a.tmps) = true := by simp [Region.wanted, hgd]
  have h5 := Kd.R_append_rows_step (ops := ops) (Q := Q) (Kc := Kc) d base hw s x t e z bytes ho ht hinfo hz hs0 hb0 v xs ys A m c ok okp hs hx HO HR hKM hokp hfresh HB hbase hl h
  rw [if_pos hw] at h5 ⊢
  exact h5
end

/-! ### a script's run whose clauses are rows of their own -/
section
variable {w0 w : World} {g Bm i : Nat} {ok P : Nat → Prop} {vals : List Int} {cls : List (List Int × Int × Int)} {marks : List S48} {cs : List (List Int)} {n : Int} {vl vm : Value}
theorem PS.nextW (h : PS w0 w g Bm i ok P vals cls marks cs n vl vm) {W w6 w7 : World} (hb : Below w.heap.size w W) {n' : Int} {vl' vm' : Value} {cc : Nat} (hpp : PlayPost w0 W w6 (fun k => ok k ∧ k < w.heap.size) (fun k => P k ∧ k < w.heap.size) g n' vl' vm' cs.length cc) {b7 : Nat} (hR : Rest w6 w7 (fun k => k = b7)) (h7 : w.heap.size ≤ b7) (h7' : b7 < W.heap.size ∨ w6.heap.size ≤ b7) :
    ∃ ok' P' vals' cls' marks' cs', PS w0 (((w7.setCell ⟨Bm, 0, none⟩ (.int .i64 n')).setCell ⟨Bm, 1, none⟩ vl').setCell ⟨Bm, 2, none⟩ vm') g Bm (i + 1) ok' P' vals' cls' marks' cs' n' vl' vm' ∧ (∀ k, (ok' k ∨ P' k) → ((ok k ∨ P k) ∧ k < w.heap.size) ∨ W.heap.size ≤ k) := by
  obtain ⟨b1, b2, b3, b4⟩ := h.box hb hpp
  obtain ⟨vals', cls', marks', cs', oS, oP, z1, z2, z3, z4, z5, z6, z7⟩ := hpp.out
  have hB := (hb.block Bm (blk_lt h.bm)).trans h.bm
  have hlt : Bm < W.heap.size := blk_lt hB
  have hlt' : Bm < w.heap.size := blk_lt h.bm
  have hws := hb.size
  have hne := h.hne
  have y1 : ∀ k, oS k → w0.heap.size < k ∧ k ≠ Bm ∧ (k < w6.heap.size → k ≠ b7) := fun k q => by
    rcases z4 k q with q | q
    · have := h.ok0 k q.1; exact ⟨this.1, this.2, fun _ => by omega⟩
    · exact ⟨by omega, by omega, fun _ => by omega⟩
  have y2 : ∀ k, oP k → w0.heap.size < k ∧ k ≠ Bm ∧ (k < w6.heap.size → k ≠ b7) := fun k q => by
    rcases z5 k q with q | q
    · have := h.P0 k q.1; exact ⟨this.1, this.2, fun _ => by omega⟩
    · exact ⟨by omega, by omega, fun _ => by omega⟩
  have hx : ∀ k, k ≠ Bm → k ≠ b7 → k < w6.heap.size → (((w7.setCell ⟨Bm, 0, none⟩ (.int .i64 n')).setCell ⟨Bm, 1, none⟩ vl').setCell ⟨Bm, 2, none⟩ vm').heap[k]? = w6.heap[k]? := fun k q1 q3 q2 => by
    rw [Below.heap_setCell _ ⟨Bm, 2, none⟩ _ k (fun e => q1 e), Below.heap_setCell _ ⟨Bm, 1, none⟩ _ k (fun e => q1 e), Below.heap_setCell _ ⟨Bm, 0, none⟩ _ k (fun e => q1 e)]
    exact hR.block k q2 q3
  have hbm : (((w7.setCell ⟨Bm, 0, none⟩ (.int .i64 n')).setCell ⟨Bm, 1, none⟩ vl').setCell ⟨Bm, 2, none⟩ vm').heap[Bm]? = some (.cells #[.int .i64 n', vl', vm'] 65 (0, 0)) := by
    have c0 := (hR.block Bm b4 (by omega)).trans b1
    have c1 := blk_set (blk_set (blk_set c0 0 (.int .i64 n')) 1 vl') 2 vm'
    exact c1
  have hRA : Rest w6 (((w7.setCell ⟨Bm, 0, none⟩ (.int .i64 n')).setCell ⟨Bm, 1, none⟩ vl').setCell ⟨Bm, 2, none⟩ vm') (fun k => k = Bm ∨ k = b7) := Rest.set (p := ⟨Bm, 2, none⟩) (Rest.set (p := ⟨Bm, 1, none⟩) (Rest.set (p := ⟨Bm, 0, none⟩) (hR.mono (fun _ _ q => .inr q)) (.inl rfl) _) (.inl rfl) _) (.inl rfl) _
  exact ⟨_, _, vals', cls', marks', cs', ⟨z6.bound.step (fun k q hk => hx k (y1 k q.1).2.1 ((y1 k q.1).2.2 q.2) hk), z1, z7.bound.step (fun k q hk => hx k (y2 k q.1).2.1 ((y2 k q.1).2.2 q.2) hk), fun k q1 q2 => z3 k q1.1 q2.1, fun k q => ⟨(y1 k q.1).1, (y1 k q.1).2.1⟩, fun k q => ⟨(y2 k q.1).1, (y2 k q.1).2.1⟩, by have := h.cnt; omega, hbm, hRA.below b3 (fun k q => by omega), hne⟩, fun k q => by
    rcases q with q | q
    · rcases z4 k q.1 with q | q
      · exact .inl ⟨.inl q.1, q.2⟩
      · exact .inr q
    · rcases z5 k q.1 with q | q
      · exact .inl ⟨.inr q.1, q.2⟩
      · exact .inr q⟩

end
theorem PS.play2W {w0 w : World} {g Bm i : Nat} {ok P : Nat → Prop} {vals : List Int} {cls : List (List Int × Int × Int)} {marks : List S48} {cs : List (List Int)} {n : Int} {vl vm : Value} (h : PS w0 w g Bm i ok P vals cls marks cs n vl vm) {W : World} (hb : Below w.heap.size w W) (Ac : Option Addr) (cc : Nat) (c : List Int) (D lit N : Int) {ok3 : Nat → Prop} (hrc0 : Kd.R (Kd.int .i64) 3 W w.heap.size ok3 (.slice Ac c.length cc) c) (hcc : c.length ≤ cc) (hcl : c.length ≤ 4194304) (hi : i < 1048576) :
    Calls Try.prog 30 #[.pointer (some ⟨g, 0, none⟩), .agg #[.int .i64 n, vl, vm], .agg #[.int .i64 D, .slice Ac c.length cc, .int .i64 lit, .int .i64 N]] W fun e w' => ∃ (n' : Int) (Al : Option Addr) (nl cl : Nat) (Am : Option Addr) (nm cm : Nat), e = .returned (.tuple #[.agg #[.int .i64 n', .slice Al nl cl, .slice Am nm cm], .bool true]) ∧ (Below w.heap.size w W ∧ PlayPost w0 W w' (fun k => ok k ∧ k < w.heap.size) (fun k => P k ∧ k < w.heap.size) g n' (.slice Al nl cl) (.slice Am nm cm) cs.length cc) ∧ (∀ p, KeepP w0.heap.size Bm p → w'.cell? p = w.cell? p) ∧ (∀ o, W.heap[w.heap.size]? = some o → w'.heap[w.heap.size]? = some o) ∧ Bm < w'.heap.size ∧ w0.heap.size < w'.heap.size := by
  refine (h.playW hb Ac cc c D lit N (fun W' hR => (Kd.R_reads' (Kd.R_step (Kd.R_bound hrc0) (fun k hk hlt => hR.block k hlt (fun q => q.elim (fun q => absurd q.2 (Nat.not_lt.2 hk.2.1)) (fun q => absurd q.2 (Nat.not_lt.2 hk.2.1)))))).2.2) hcc hcl hi).mono ?_
  rintro e w' ⟨n', vl', vm', rfl, hpp⟩
  obtain ⟨y1, y2, y3, y4⟩ := h.box hb hpp
  obtain ⟨vals', cls', marks', cs', oS, oP, z1, z2, z3, z4, z5, z6, z7⟩ := hpp.out
  obtain ⟨Al', cl', rfl⟩ := Kd.R_slice z7.rl
  obtain ⟨Am', cm', rfl⟩ := Kd.R_slice z7.rm
  have hlt : w0.heap.size < w.heap.size := Nat.lt_trans h.hne (blk_lt h.bm)
  refine ⟨n', Al', _, cl', Am', _, cm', rfl, ⟨hb, hpp⟩, fun p q => ?_, fun o ho => ?_, y4, Nat.lt_trans h.hne y4⟩
  · refine h.keep (fun k q => ?_) p q
    rcases q with q | q
    · exact (y2 k q).trans (hb.block k (by omega))
    · rw [q, y1, h.bm]
  · exact (hpp.rest.block _ (blk_lt ho) (fun q => q.elim (fun q => Nat.lt_irrefl _ q.2) (fun q => Nat.lt_irrefl _ q.2))).trans ho
/-- Nothing of the run lies in the blocks that are written. -/
theorem PS.spoil {w0 w w' : World} {g Bm i : Nat} {ok P : Nat → Prop} {vals : List Int} {cls : List (List Int × Int × Int)} {marks : List S48} {cs : List (List Int)} {n : Int} {vl vm : Value} (h : PS w0 w g Bm i ok P vals cls marks cs n vl vm) {S : Nat → Prop} (hR : Rest w w' S)
    (h1 : ∀ k, ok k → ¬ S k) (h2 : ∀ k, P k → ¬ S k) (h3 : ¬ S Bm) (h4 : ∀ k, S k → w0.heap.size ≤ k) : PS w0 w' g Bm i ok P vals cls marks cs n vl vm :=
  ⟨h.st.step (fun k q hk => hR.block k hk (h1 k q)), h.inv, h.mod.step (fun k q hk => hR.block k hk (h2 k q)), h.dj, h.ok0, h.P0, h.cnt, (hR.block Bm (blk_lt h.bm) h3).trans h.bm, hR.below h.bel h4, h.hne⟩
/-- The marks of the model are a row of their own. -/
theorem PS.kept {w0 w : World} {g Bm i : Nat} {ok P : Nat → Prop} {vals : List Int} {cls : List (List Int × Int × Int)} {marks : List S48} {cs : List (List Int)} {n : Int} {vl vm : Value} (h : PS w0 w g Bm i ok P vals cls marks cs n vl vm) {B : Nat} {ok3 : Nat → Prop} {v : Value}
    (hv : Kd.R k48 48 w B ok3 v marks) (hB : w0.heap.size < B) (hBm : Bm < B) (h1 : ∀ k, ok k → k < B) (h2 : ∀ k, P k → k < B) :
    ∃ P', PS w0 (w.setCell ⟨Bm, 2, none⟩ v) g Bm i ok P' vals cls marks cs n vl v ∧ ∀ k, P' k → P k ∨ B ≤ k := by
  have hv' := Kd.R_bound hv
  have hne : ∀ k, k ≠ Bm → (w.setCell ⟨Bm, 2, none⟩ v).heap[k]? = w.heap[k]? := fun k hk => Below.heap_setCell w ⟨Bm, 2, none⟩ v k hk
  refine ⟨fun k => P k ∨ B ≤ k, ⟨h.st.step (fun k q _ => hne k (h.ok0 k q).2), h.inv, ⟨?_, ?_⟩, fun k q z => z.elim (h.dj k q) (fun z => by have := h1 k q; omega), h.ok0, fun k q => q.elim (h.P0 k) (fun q => ⟨by omega, by omega⟩), h.cnt, ?_, ?_, h.hne⟩, fun k q => q⟩
  · refine Kd.R_mono (Kd.R_step (Kd.R_bound h.mod.rl) (fun k q _ => hne k (h.P0 k q.1.1).2)) (fun k q => ⟨.inl q.1.1, fun e => ?_⟩)
    have := h2 k q.1.1
    have := (Kd.R_base hv) k e.symm
    omega
  · exact Kd.R_mono (Kd.R_lower (Kd.R_step hv' (fun k q _ => hne k (by have := q.2.1; omega))) (Nat.zero_le _)) (fun k q => .inr q.2.1)
  · exact blk_set h.bm 2 v
  · exact below_set h.bel (Nat.le_of_lt h.hne)
theorem may_says {n : Int} {cs : List (List Int)} {ms : List S48} (h : MayL n cs ms) : ∀ rest pre : List S48, pre ++ rest = ms → mayF n cs pre rest = true := by
  intro rest
  induction rest with
  | nil => intro pre _; rfl
  | cons m rest ih =>
    intro pre he
    rw [mayF_open]
    have hm : ms[pre.length]? = some m := by rw [← he]; simp
    have h1 := (h.at_ pre.length m hm).2
    have h2 : ms.take pre.length = pre := by rw [← he]; simp
    rw [h2] at h1
    rw [h1, Bool.true_and]
    exact ih (pre ++ [m]) (by rw [← he]; simp)

/-! ### helpers for the walk of UnitsOwn -/
theorem Shp.lt {e sz base : Nat} {w : World} {g n c : Nat} (h : Shp e sz base w (.slice (some ⟨g, 0, none⟩) n c) n) : base ≤ g ∧ g < w.heap.size := by
  rcases h with ⟨q, _⟩ | ⟨g2, c2, cur2, q1, q2, q3, _⟩
  · cases q
  · simp only [Value.slice.injEq, Option.some.injEq, Addr.mk.injEq] at q1
    obtain ⟨⟨f1, _⟩, _⟩ := q1
    subst f1
    exact ⟨q2, blk_lt q3⟩
theorem Shp.at_ {e sz base : Nat} {w : World} {A : Option Addr} {n c : Nat} (h : Shp e sz base w (.slice A n c) n) (hn : 0 < n) : ∃ g, A = some ⟨g, 0, none⟩ := by
  rcases h with ⟨q, q2⟩ | ⟨g2, c2, cur2, q1, _⟩
  · omega
  · simp only [Value.slice.injEq] at q1
    exact ⟨g2, q1.1⟩
section
variable {ops : Array Oper} {rest : List Oper} {o : Oper} {a : Act} {Q : Exit → Act → World → Prop}
theorem shp_append8 {W : World} {base n c : Nat} {A : Option Addr} (L : List Value) (hL : L.length = 8) (hone : ∀ u ∈ L, u.oneCell' = true) (hv : Shp 3 1 base W (.slice A n c) n) (hgd : o.guard = none) (s x : Operand)
    (ho : o.op = .call { callee := .builtin .append, args := #[s, x], argTypes := #[34, 34] }) (hs : a.eval s = .slice A n c) (hx : a.eval x = .slice (some ⟨W.heap.size, 0, none⟩) 8 8) (hn : n ≤ 4194304) (hbase : base ≤ W.heap.size)
    (hK : ∀ (A' : Option Addr) (c' : Nat) (w' : World), Shp 3 1 base w' (.slice A' (n + 8) c') (n + 8) → Forms base W w' → Below base W w' → (∀ (k e : Nat) (cur : Array Value), W.heap[k]? = some (.cells cur e (0, 0)) → e ≠ 3 → w'.heap[k]? = W.heap[k]?) → wpList Try.prog ops Q rest (a.put o.dst (.slice A' (n + 8) c')) w') :
    wpList Try.prog ops Q (o :: rest) a (W.alloc (.cells L.toArray 3)) := by
  obtain ⟨i0, hinf, hzz⟩ := Option.map_eq_some_iff.1 info_int
  simp only [Prod.mk.injEq] at hzz
  obtain ⟨hz0, hz1, hz2⟩ := hzz
  have hB := heap_alloc_new W (.cells L.toArray 3)
  have hal := below_alloc (Below.refl W.heap.size W) (.cells L.toArray 3)
  have hsz : (W.alloc (.cells L.toArray 3)).heap.size = W.heap.size + 1 := by simp
  have hbW : Below base W (W.alloc (.cells L.toArray 3)) := ⟨hal.os, hal.tape, hal.output, hal.size, fun k hk => hal.block k (by omega)⟩
  refine shp_append (base := base) (hv.forms (Forms.of_below hal)) hgd s x 34 ho Try.underlying34 hinf hz0 hz1 hz2 rfl hs ⟨W.heap.size, 0, none⟩ L hx hL ?_ hone (by omega) (by omega) (by omega) ?_
  · intro j u hj
    rw [show ((⟨W.heap.size, 0, none⟩ : Addr).add j) = ⟨W.heap.size, j, none⟩ by simp [Addr.add]; omega, blk_cell hB j]
    simpa using hj
  · intro v' w' h1 h2 h3 h4
    obtain ⟨A', c', rfl, _⟩ := h1.slice
    refine hK A' c' w' h1 ((Forms.of_below hal).trans h2) (h3 W hbW) (fun k e cur hk hne => ?_)
    have hk' := (hal.block k (blk_lt hk)).trans hk
    exact (h4 k e cur hk' hne).trans (hk'.trans hk.symm)
end
section
variable {w0 w : World} {g Bm i : Nat} {ok P : Nat → Prop} {vals : List Int} {cls : List (List Int × Int × Int)} {marks : List S48} {cs : List (List Int)} {n : Int} {vl vm : Value}
theorem PS.clauses (h : PS w0 w g Bm i ok P vals cls marks cs n vl vm) :
    Calls Try.prog 19 #[.pointer (some ⟨g, 0, none⟩)] w fun e w' => ∃ (A : Option Addr) (c : Nat), e = .returned (.slice A cs.length c) ∧ OutA w.heap.size w' A cs.length 0 ∧ Below w.heap.size w w' := by
  refine (st_Clauses ok g vals cls marks w h.st h.inv.fit.cap (fun x hx => h.inv.cl x.1 (by rw [← h.inv.ecs]; exact List.mem_map_of_mem hx))).mono ?_
  rintro e w' ⟨v, rfl, hv, hb⟩
  rw [h.inv.ecs] at hv
  obtain ⟨A, c, rfl⟩ := Kd.R_slice hv
  exact ⟨A, c, rfl, OutA.start hv h.inv.cl, hb⟩
theorem PS.tells (h : PS w0 w g Bm i ok P vals cls marks cs n vl vm) :
    Calls Try.prog 20 #[.pointer (some ⟨g, 0, none⟩)] w fun e w' => ∃ (A : Option Addr) (c : Nat), e = .returned (.slice A marks.length c) ∧ Kd.R k48 48 w' w.heap.size (fun _ => True) (.slice A marks.length c) marks ∧ Below w.heap.size w w' := by
  refine (st_Marks ok g vals cls marks w h.st (by have := h.inv.len; omega)).mono ?_
  rintro e w' ⟨v, rfl, hv, hb⟩
  obtain ⟨A, c, rfl⟩ := Kd.R_slice hv
  exact ⟨A, c, rfl, hv, hb⟩
theorem PS.may (h : PS w0 w g Bm i ok P vals cls marks cs n vl vm) {W : World} (hb : Below w.heap.size w W) :
    Calls Try.prog 32 #[.int .i64 n, vl, vm] W fun e w' => e = .returned (.bool true) ∧ Below W.heap.size W w' := by
  obtain ⟨Al, cl, rfl⟩ := Kd.R_slice h.mod.rl
  obtain ⟨Am, cm, rfl⟩ := Kd.R_slice h.mod.rm
  have h' := h.below hb
  have hl := h.inv.len
  obtain ⟨k, hk⟩ := (may_all h.inv.n0 hl.2.1 h.inv.csok marks (by omega)).rounds
  rw [may_says h.inv.may marks [] rfl] at hk
  exact fulcrumref20_May.calls k n Al cl cs Am cm marks true W (C_kC h'.bel (Kd.R_reads' h'.mod.rl).2.2) (Kd.R_reads' h'.mod.rl).2.1 (Kd.R_reads' h'.mod.rm).2.2 (Kd.R_reads' h'.mod.rm).2.1 hk
end
theorem Out.frozen {w : World} {base g m k : Nat} (ho : Out base w g m k) (i : Nat) : w.frozen? ⟨g, i, none⟩ = false := by
  obtain ⟨cur, h4, _⟩ := ho.o
  exact blk_frozen h4 i
theorem below_tr {B : Nat} {w w1 w2 : World} (h : Below B w w1) (k : Below B w1 w2) : Below B w w2 :=
  ⟨k.os.trans h.os, k.tape.trans h.tape, k.output.trans h.output, Nat.le_trans h.size k.size, fun g hg => (k.block g hg).trans (h.block g hg)⟩

end Go.Proofs.Ytegaaobiedfjcaa.PU
