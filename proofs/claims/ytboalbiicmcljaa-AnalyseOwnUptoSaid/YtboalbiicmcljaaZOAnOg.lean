import Derived.Test.YtboalbiicmcljaaZOAnLw
import Derived.ArgAppend
import Derived.Deep.DeepAppendRoom
namespace Go.Proofs.Ytboalbiicmcljaa.PAN
open Go.RowKit Go.Proofs.YtboalbiicmcljaaW.PrintWords Go.Proofs.YtboalbiicmcljaaW.PrintLast Go.Proofs.YtboalbiicmcljaaW.PrintMore Go.Proofs.YtboalbiicmcljaaH
set_option linter.unusedVariables false
set_option linter.unusedSimpArgs false
def Rows (w : World) (B : Nat) (V : Nat → Value) (X : Nat → List Int) : Prop :=
  ∀ i : Nat, i < 4 → Kd.R (Kd.int .i64) 3 w B (fun k => ∀ j : Nat, j < 4 → j ≠ i → some k ≠ (V j).ownBlock) (V i) (X i)
def four {α : Type} (a b c d : α) (i : Nat) : α := if i = 0 then a else if i = 1 then b else if i = 2 then c else d
theorem lt4 {i : Nat} (h : i < 4) : i = 0 ∨ i = 1 ∨ i = 2 ∨ i = 3 := by omega
def ownV (i j : Nat) : Int := -1000 * ((i : Int) + 1) - (j : Int)
def ownL (i n : Nat) : List Int := (List.range n).map (ownV i)
theorem ownL_len (i n : Nat) : (ownL i n).length = n := by simp [ownL]
theorem ownL_get {i n j : Nat} (h : j < n) : (ownL i n)[j]? = some (ownV i j) := by simp [ownL, h]
theorem ownL_succ (i n : Nat) : ownL i (n + 1) = ownL i n ++ [ownV i n] := by simp [ownL, List.range_succ]
theorem ownL_take {i n m : Nat} (h : m ≤ n) : (ownL i n).take m = ownL i m := by
  unfold ownL
  rw [← List.map_take, List.take_range, Nat.min_eq_left h]
theorem fill_step {i j : Nat} {x : List Int} (h : j < x.length) (hx : x.take j = ownL i j) : (x.set j (ownV i j)).take (j + 1) = ownL i (j + 1) := by
  rw [ownL_succ, List.take_succ_eq_append_getElem (by simpa using h), List.getElem_set_self, List.take_set_of_le (Nat.le_refl _), hx]
theorem Rows.len {w : World} {B : Nat} {V : Nat → Value} {X : Nat → List Int} (h : Rows w B V X) {i : Nat} (hi : i < 4) : ∃ A c, V i = .slice A (X i).length c := Kd.R_slice (h i hi)
theorem Rows.below {w w' : World} {B : Nat} {V : Nat → Value} {X : Nat → List Int} (h : Rows w B V X) (hb : Below w.heap.size w w') : Rows w' B V X := fun i hi => Kd.R_below (h i hi) hb
theorem Rows.put {w : World} {B : Nat} {V : Nat → Value} {X : Nat → List Int} (h : Rows w B V X) {i : Nat} (hi : i < 4) {g n c : Nat} (hV : V i = .slice (some ⟨g, 0, none⟩) n c) (j : Nat) (x : Int) :
    Rows (w.setCell ⟨g, j, none⟩ (.int .i64 x)) B V (fun k => if k = i then (X i).set j x else X k) := by
  intro k hk
  by_cases he : k = i
  · subst he
    simp only [if_true]
    have h1 := h k hi
    rw [hV] at h1 ⊢
    exact Kd.R_putn h1 (j : Int) x
  · simp only [if_neg he]
    have hg : (V i).ownBlock = some g := by rw [hV]; rfl
    exact Kd.R_far (h k hk) (fun q hq => fun e => hq i hi (fun e => he e.symm) (by rw [hg, e])) _
theorem own_lt {w : World} {e B : Nat} {ok : Nat → Prop} {v : Value} {x : List Int} (h : Kd.R (Kd.int .i64) e w B ok v x) : ∀ k, v.ownBlock = some k → B ≤ k ∧ k < w.heap.size := fun k hk => ⟨Kd.R_base h k hk, Kd.R_lt h k hk⟩
theorem Rows.start {w4 w : World} {B : Nat} {v0 v1 v2 v3 : Value} {x0 x1 x2 x3 : List Int} (hb : B ≤ w4.heap.size)
    (r0 : Kd.R (Kd.int .i64) 3 w B (fun k => some k ≠ v1.ownBlock) v0 x0) (r1 : Kd.R (Kd.int .i64) 3 w B (fun k => some k ≠ v0.ownBlock) v1 x1)
    (l0 : ∀ k, v0.ownBlock = some k → k < w4.heap.size) (l1 : ∀ k, v1.ownBlock = some k → k < w4.heap.size)
    (r2 : Kd.R (Kd.int .i64) 3 w w4.heap.size (fun k => some k ≠ v3.ownBlock) v2 x2) (r3 : Kd.R (Kd.int .i64) 3 w w4.heap.size (fun k => some k ≠ v2.ownBlock) v3 x3) :
    Rows w B (four v0 v1 v2 v3) (four x0 x1 x2 x3) := by
  have t0 := Kd.R_tight rfl r0
  have t1 := Kd.R_tight rfl r1
  have t2 := Kd.R_tight rfl (Kd.R_lower r2 hb)
  have t3 := Kd.R_tight rfl (Kd.R_lower r3 hb)
  have b2 := Kd.R_base r2
  have b3 := Kd.R_base r3
  have e0 := r0.1
  have e1 := r1.1
  have e2 := r2.1
  have e3 := r3.1
  intro i hi
  rcases lt4 hi with rfl | rfl | rfl | rfl
  · refine Kd.R_mono t0 (fun k hk j hj hne => ?_)
    rcases lt4 hj with rfl | rfl | rfl | rfl
    · exact absurd rfl hne
    · exact e0 k hk.symm
    · intro q; have := l0 k hk.symm; have := b2 k q.symm; omega
    · intro q; have := l0 k hk.symm; have := b3 k q.symm; omega
  · refine Kd.R_mono t1 (fun k hk j hj hne => ?_)
    rcases lt4 hj with rfl | rfl | rfl | rfl
    · exact e1 k hk.symm
    · exact absurd rfl hne
    · intro q; have := l1 k hk.symm; have := b2 k q.symm; omega
    · intro q; have := l1 k hk.symm; have := b3 k q.symm; omega
  · refine Kd.R_mono t2 (fun k hk j hj hne => ?_)
    rcases lt4 hj with rfl | rfl | rfl | rfl
    · intro q; have := l0 k q.symm; have := b2 k hk.symm; omega
    · intro q; have := l1 k q.symm; have := b2 k hk.symm; omega
    · exact absurd rfl hne
    · exact e2 k hk.symm
  · refine Kd.R_mono t3 (fun k hk j hj hne => ?_)
    rcases lt4 hj with rfl | rfl | rfl | rfl
    · intro q; have := l0 k q.symm; have := b3 k hk.symm; omega
    · intro q; have := l1 k q.symm; have := b3 k hk.symm; omega
    · exact e3 k hk.symm
    · exact absurd rfl hne
structure Fill (w3 w : World) (ga : Nat) (V : Nat → Value) (X : Nat → List Int) (i j : Nat) : Prop where
  b : Below w3.heap.size w3 w
  a : w.heap[ga]? = some (.cells #[V 0, V 1, V 2, V 3] 55 (0, 0))
  r : ∃ Y : Nat → List Int, Rows w w3.heap.size V Y ∧ (∀ k, k < 4 → (Y k).length = (X k).length) ∧ (∀ k, k < i → k < 4 → Y k = ownL k (X k).length) ∧ (Y i).take j = ownL i j
theorem Fill.row {w3 w : World} {ga : Nat} {V : Nat → Value} {X : Nat → List Int} {i j : Nat} (h : Fill w3 w ga V X i j) {k : Nat} (hk : k < 4) : ∃ A c, V k = .slice A (X k).length c := by
  obtain ⟨Y, r, l, _⟩ := h.r
  obtain ⟨A, c, e⟩ := r.len hk
  exact ⟨A, c, by rw [e, l k hk]⟩
theorem arr_cell {w : World} {ga : Nat} {V : Nat → Value} (h : w.heap[ga]? = some (.cells #[V 0, V 1, V 2, V 3] 55 (0, 0))) {k : Nat} (hk : k < 4) : w.cell? ⟨ga, k, none⟩ = some (V k) := by
  rcases lt4 hk with rfl | rfl | rfl | rfl
  · exact blk_cell h 0
  · exact blk_cell h 1
  · exact blk_cell h 2
  · exact blk_cell h 3
theorem Fill.cell {w3 w : World} {ga : Nat} {V : Nat → Value} {X : Nat → List Int} {i j : Nat} (h : Fill w3 w ga V X i j) {k : Nat} (hk : k < 4) : w.cell? ⟨ga, k, none⟩ = some (V k) := arr_cell h.a hk
theorem Fill.at {w3 w : World} {ga : Nat} {V : Nat → Value} {X : Nat → List Int} {i j : Nat} (h : Fill w3 w ga V X i j) (hi : i < 4) (hj : j < (X i).length) : ∃ g c x, V i = .slice (some ⟨g, 0, none⟩) (X i).length c ∧ w.cell? ⟨g, j, none⟩ = some (.int .i64 x) ∧ w.frozen? ⟨g, j, none⟩ = false := by
  obtain ⟨Y, r, l, _⟩ := h.r
  obtain ⟨g, c, e, _⟩ := Kd.R_form (r i hi) (by rw [l i hi]; omega)
  have r1 := r i hi
  rw [e] at r1
  have h2 := Kd.R_celln (0 : Int) r1 (j : Int) (by omega) (by rw [l i hi]; omega)
  exact ⟨g, c, _, by rw [e, l i hi], h2.1, h2.2⟩
theorem Fill.put {w3 w : World} {ga : Nat} {V : Nat → Value} {X : Nat → List Int} {i j g c : Nat} (h : Fill w3 w ga V X i j) (hge : w3.heap.size ≤ ga) (hi : i < 4) (hj : j < (X i).length) (hv : V i = .slice (some ⟨g, 0, none⟩) (X i).length c) : Fill w3 (w.setCell ⟨g, j, none⟩ (.int .i64 (ownV i j))) ga V X i (j + 1) := by
  obtain ⟨Y, r, l, o, t⟩ := h.r
  have r1 := r i hi
  have hg := own_lt r1 g (by rw [hv]; rfl)
  have hne : ga ≠ g := by
    have := Kd.R_ne r1 h.a (t := 55) (by decide)
    rw [hv] at this
    exact fun e => this (by rw [e]; rfl)
  refine ⟨below_set h.b hg.1, ?_, _, r.put hi hv j (ownV i j), fun k hk => ?_, fun k hk hk4 => ?_, ?_⟩
  · rw [Below.heap_setCell w _ _ _ hne]; exact h.a
  · by_cases he : k = i
    · subst he; simp [l k hi]
    · simp only [if_neg he]; exact l k hk
  · simp only [if_neg (show k ≠ i by omega)]; exact o k hk hk4
  · simp only [if_true]
    exact fill_step (by rw [l i hi]; exact hj) t
theorem Fill.next {w3 w : World} {ga : Nat} {V : Nat → Value} {X : Nat → List Int} {i : Nat} (h : Fill w3 w ga V X i (X i).length) (hi : i < 4) : Fill w3 w ga V X (i + 1) 0 := by
  obtain ⟨Y, r, l, o, t⟩ := h.r
  refine ⟨h.b, h.a, Y, r, l, fun k hk hk4 => ?_, by simp [ownL]⟩
  by_cases he : k = i
  · subst he
    rw [← t, ← l k hi, List.take_length]
  · exact o k (by omega) hk4
theorem Fill.start {w3 w : World} {ga : Nat} {V : Nat → Value} {X : Nat → List Int} (b : Below w3.heap.size w3 w) (a : w.heap[ga]? = some (.cells #[V 0, V 1, V 2, V 3] 55 (0, 0))) (r : Rows w w3.heap.size V X) : Fill w3 w ga V X 0 0 :=
  ⟨b, a, X, r, fun _ _ => rfl, fun k hk => absurd hk (by omega), by simp [ownL]⟩
def nilS : Value := .slice none 0 0
def upd {α : Type} (f : Nat → α) (i : Nat) (x : α) (k : Nat) : α := if k = i then x else f k
theorem upd_at {α : Type} (f : Nat → α) (i : Nat) (x : α) : upd f i x i = x := by simp [upd]
theorem upd_ne {α : Type} (f : Nat → α) {i k : Nat} (x : α) (h : k ≠ i) : upd f i x k = f k := by simp [upd, h]
structure Grow (w3 w : World) (ga gb : Nat) (V U : Nat → Value) (n N : Nat → Nat) : Prop where
  b : Below w3.heap.size w3 w
  gea : w3.heap.size ≤ ga
  geb : w3.heap.size ≤ gb
  ne : ga ≠ gb
  a : w.heap[ga]? = some (.cells #[V 0, V 1, V 2, V 3] 55 (0, 0))
  c : w.heap[gb]? = some (.cells #[U 0, U 1, U 2, U 3] 55 (0, 0))
  old : ∀ i, i < 4 → Kd.R (Kd.int .i64) 3 w w3.heap.size (fun k => ∀ j : Nat, j < 4 → j ≠ i → some k ≠ (V j).ownBlock ∧ some k ≠ (U j).ownBlock) (V i) (ownL i (n i))
  new : ∀ i, i < 4 → Kd.R (Kd.int .i64) 3 w w3.heap.size (fun k => ∀ j : Nat, j < 4 → j ≠ i → some k ≠ (V j).ownBlock ∧ some k ≠ (U j).ownBlock) (U i) (ownL i (N i))
  lie : ∀ i, i < 4 → (U i).ownBlock = (V i).ownBlock → n i ≤ N i
theorem int_ne_arr : ∀ q, q ∈ 3 :: (Kd.int .i64).E → q ≠ 55 := by simp [Kd.int, Kd.scalar]
theorem Grow.cells {w : World} {gb : Nat} {U : Nat → Value} (h : w.heap[gb]? = some (.cells #[U 0, U 1, U 2, U 3] 55 (0, 0))) {i : Nat} (hi : i < 4) (v : Value) :
    (w.setCell ⟨gb, i, none⟩ v).heap[gb]? = some (.cells #[upd U i v 0, upd U i v 1, upd U i v 2, upd U i v 3] 55 (0, 0)) := by
  have h1 := blk_set h i v
  rw [h1]
  rcases lt4 hi with rfl | rfl | rfl | rfl <;> simp [upd]
theorem Grow.begin {w3 w : World} {ga gb : Nat} {V U : Nat → Value} {n N : Nat → Nat} (h : Grow w3 w ga gb V U n N) {i : Nat} (hi : i < 4) : Grow w3 (w.setCell ⟨gb, i, none⟩ (V i)) ga gb V (upd U i (V i)) n (upd N i (n i)) := by
  refine ⟨below_set h.b h.geb, h.gea, h.geb, h.ne, ?_, Grow.cells h.c hi _, fun k hk => ?_, fun k hk => ?_, fun k hk hl => ?_⟩
  · rw [Below.heap_setCell w _ _ _ h.ne]; exact h.a
  · refine Kd.R_mono (Kd.R_set (h.old k hk) h.c int_ne_arr i _) (fun q hq j hj hne => ⟨(hq j hj hne).1, ?_⟩)
    by_cases he : j = i
    · subst he; rw [upd_at]; exact (hq j hj hne).1
    · rw [upd_ne _ _ he]; exact (hq j hj hne).2
  · by_cases hk' : k = i
    · subst hk'
      rw [upd_at, upd_at]
      refine Kd.R_mono (Kd.R_set (h.old k hk) h.c int_ne_arr k _) (fun q hq j hj hne => ⟨(hq j hj hne).1, ?_⟩)
      rw [upd_ne _ _ hne]; exact (hq j hj hne).2
    · rw [upd_ne _ _ hk', upd_ne _ _ hk']
      refine Kd.R_mono (Kd.R_set (h.new k hk) h.c int_ne_arr i _) (fun q hq j hj hne => ⟨(hq j hj hne).1, ?_⟩)
      by_cases he : j = i
      · subst he; rw [upd_at]; exact (hq j hj hne).1
      · rw [upd_ne _ _ he]; exact (hq j hj hne).2
  · by_cases hk' : k = i
    · subst hk'; rw [upd_at]; exact Nat.le_refl _
    · rw [upd_ne _ _ hk'] at hl ⊢; exact h.lie k hk hl
theorem own_prefix {w : World} {e B g n c cap m : Nat} {xs ys : List Int} (h : w.ownsRow B e 1 (.slice (some ⟨g, 0, none⟩) n cap) n (encs (Value.int .i64) xs)) (hc : c = cap) (hm : m ≤ n) (hy : xs.take m = ys) : w.ownsRow B e 1 (.slice (some ⟨g, 0, none⟩) m c) m (encs (Value.int .i64) ys) := by
  subst hc hy
  obtain ⟨hl, h⟩ := h
  rcases h with ⟨h, _⟩ | ⟨g', cap', cur, he, hb, hg, hn, hx, hs, ht⟩
  · cases h
  · have hl' : xs.length = n := by simpa [encs] using hl
    refine ⟨by simp [encs]; omega, .inr ⟨g', cap', cur, ?_, hb, hg, by omega, hx, hs, ?_⟩⟩
    · injection he with e1 e2 e3; rw [e1, e3]
    · have h2 : encs (Value.int .i64) (xs.take m) = (encs (Value.int .i64) xs).take m := by simp [encs, List.map_take]
      rw [h2, ← ht, List.take_take]
      congr 1
      omega
theorem own_cap {w : World} {e e' B B' g n n' c c' : Nat} {xs ys : List Value} (h : w.ownsRow B e 1 (.slice (some ⟨g, 0, none⟩) n c) n xs) (h' : w.ownsRow B' e' 1 (.slice (some ⟨g, 0, none⟩) n' c') n' ys) : c = c' := by
  rcases h.2 with ⟨h, _⟩ | ⟨g1, c1, cur, he, _, hg, _, _, hs, _⟩
  · cases h
  rcases h'.2 with ⟨h', _⟩ | ⟨g2, c2, cur2, he2, _, hg2, _, _, hs2, _⟩
  · cases h'
  injection he with e1 e2 e3
  injection he2 with f1 f2 f3
  injection e1 with e1
  injection e1 with e1
  injection f1 with f1
  injection f1 with f1
  subst e1 f1
  rw [hg] at hg2
  injection hg2 with hg2
  injection hg2 with hg2
  subst hg2
  omega
theorem Grow.upon {w3 W w' : World} {ga gb : Nat} {V U : Nat → Value} {n N : Nat → Nat} (h : Grow w3 W ga gb V U n N) {i : Nat} (hi : i < 4) {v : Value} (hlW : W.heap.size ≤ w'.heap.size)
    (ho : Kd.R (Kd.int .i64) 3 w' w3.heap.size (fun _ => True) v (ownL i (N i + 1))) (hg : W.grownBy w' (U i).ownBlock) (hat : v.ownBlock = (U i).ownBlock ∨ ∃ q, v.ownBlock = some q ∧ W.heap.size ≤ q)
    (hold : Kd.R (Kd.int .i64) 3 w' w3.heap.size (fun _ => True) (V i) (ownL i (n i))) :
    Grow w3 (w'.setCell ⟨gb, i, none⟩ v) ga gb V (upd U i v) n (upd N i (N i + 1)) ∧ w'.heap[gb]? = some (.cells #[U 0, U 1, U 2, U 3] 55 (0, 0)) := by
  have hU := h.new i hi
  have hga : some ga ≠ (U i).ownBlock := Kd.R_ne hU h.a (by decide)
  have hgb : some gb ≠ (U i).ownBlock := Kd.R_ne hU h.c (by decide)
  have h1 := (hg.block gb (blk_lt h.c) hgb).trans h.c
  have h2 := (hg.block ga (blk_lt h.a) hga).trans h.a
  have hB : Below w3.heap.size w3 w' := h.b.grown hg h.b.size (fun k hk => Kd.R_base hU k hk)
  have key : ∀ q : Nat, q < W.heap.size → some q ≠ (U i).ownBlock → some q ≠ v.ownBlock := by
    intro q hq hne
    rcases hat with e | ⟨r, e, hr⟩
    · rw [e]; exact hne
    · rw [e]; intro e2; injection e2 with e2; omega
  have hvl : ∀ q, v.ownBlock = some q → ∀ j, j < 4 → j ≠ i → some q ≠ (V j).ownBlock ∧ some q ≠ (U j).ownBlock := by
    intro q hq j hj hne
    rcases hat with e | ⟨r, e, hr⟩
    · exact hU.1 q (by rw [← e, hq]) j hj hne
    · have : q = r := by rw [hq] at e; injection e
      subst this
      exact ⟨fun e2 => by have := Kd.R_lt (h.old j hj) q e2.symm; omega, fun e2 => by have := Kd.R_lt (h.new j hj) q e2.symm; omega⟩
  refine ⟨⟨below_set hB h.geb, h.gea, h.geb, h.ne, ?_, Grow.cells h1 hi v, fun k hk => ?_, fun k hk => ?_, fun k hk hl => ?_⟩, h1⟩
  · rw [Below.heap_setCell w' _ _ _ h.ne]; exact h2
  · refine Kd.R_set ?_ h1 int_ne_arr i _
    by_cases he : k = i
    · subst he
      refine Kd.R_mono (Kd.R_tight rfl hold) (fun q hq j hj hne => ?_)
      rw [upd_ne _ _ hne]
      exact (h.old k hi).1 q hq.symm j hj hne
    · have ht := Kd.R_tight rfl (h.old k hk)
      have hok := (h.old k hk).1
      have hlt := Kd.R_lt (h.old k hk)
      refine Kd.R_mono (Kd.R_grown ht hg (fun q hq => (hok q hq.symm i hi (fun e => he e.symm)).2)) (fun q hq j hj hne => ⟨(hok q hq.symm j hj hne).1, ?_⟩)
      by_cases hj2 : j = i
      · subst hj2; rw [upd_at]; exact key q (hlt q hq.symm) (hok q hq.symm j hj hne).2
      · rw [upd_ne _ _ hj2]; exact (hok q hq.symm j hj hne).2
  · refine Kd.R_set ?_ h1 int_ne_arr i _
    by_cases he : k = i
    · subst he
      rw [upd_at, upd_at]
      refine Kd.R_mono (Kd.R_tight rfl ho) (fun q hq j hj hne => ?_)
      rw [upd_ne _ _ hne]
      exact hvl q hq.symm j hj hne
    · rw [upd_ne _ _ he, upd_ne _ _ he]
      have ht := Kd.R_tight rfl (h.new k hk)
      have hok := (h.new k hk).1
      have hlt := Kd.R_lt (h.new k hk)
      refine Kd.R_mono (Kd.R_grown ht hg (fun q hq => (hok q hq.symm i hi (fun e => he e.symm)).2)) (fun q hq j hj hne => ⟨(hok q hq.symm j hj hne).1, ?_⟩)
      by_cases hj2 : j = i
      · subst hj2; rw [upd_at]; exact key q (hlt q hq.symm) (hok q hq.symm j hj hne).2
      · rw [upd_ne _ _ hj2]; exact (hok q hq.symm j hj hne).2
  · by_cases he : k = i
    · subst he
      rw [upd_at] at hl ⊢
      rcases hat with e | ⟨r, e, hr⟩
      · exact Nat.le_succ_of_le (h.lie k hi (by rw [← e, hl]))
      · have := Kd.R_lt (h.old k hi) r (by rw [← hl, e]); omega
    · rw [upd_ne _ _ he] at hl ⊢; exact h.lie k hk hl
theorem Grow.start {w3 w : World} {ga : Nat} {V : Nat → Value} {X : Nat → List Int} (h : Fill w3 w ga V X 4 0) (hge : w3.heap.size ≤ ga) : Grow w3 (w.alloc (.cells #[nilS, nilS, nilS, nilS] 55)) ga w.heap.size V (fun _ => nilS) (fun i => (X i).length) (fun _ => 0) := by
  obtain ⟨Y, r, l, o, _⟩ := h.r
  have hlt := blk_lt h.a
  refine ⟨below_alloc h.b _, hge, h.b.size, by omega, ?_, heap_alloc_new _ _, fun i hi => ?_, fun i hi => Kd.R_nil _ _ _ _ _, fun i hi hl => ?_⟩
  · exact (heap_alloc_old w (o := .cells #[nilS, nilS, nilS, nilS] 55) hlt).trans h.a
  · have h1 := r i hi
    rw [o i hi hi] at h1
    exact Kd.R_mono (Kd.R_alloc h1 _) (fun k hk j hj hne => ⟨hk j hj hne, by simp [nilS, Value.ownBlock]⟩)
  · have h1 := r i hi
    have h2 := l i hi
    cases hq : (X i).length with
    | zero => exact Nat.le_refl _
    | succ m =>
      obtain ⟨g, c, e, _⟩ := Kd.R_form h1 (by omega)
      rw [e] at hl
      simp [nilS, Value.ownBlock] at hl
theorem Grow.cellU {w3 w : World} {ga gb : Nat} {V U : Nat → Value} {n N : Nat → Nat} (h : Grow w3 w ga gb V U n N) {i : Nat} (hi : i < 4) : w.cell? ⟨gb, i, none⟩ = some (U i) ∧ w.frozen? ⟨gb, i, none⟩ = false := by
  refine ⟨arr_cell h.c hi, ?_⟩
  rcases lt4 hi with rfl | rfl | rfl | rfl <;> exact blk_frozen h.c _
theorem Grow.cellV {w3 w : World} {ga gb : Nat} {V U : Nat → Value} {n N : Nat → Nat} (h : Grow w3 w ga gb V U n N) {i : Nat} (hi : i < 4) : w.cell? ⟨ga, i, none⟩ = some (V i) := arr_cell h.a hi
theorem Grow.sliceU {w3 w : World} {ga gb : Nat} {V U : Nat → Value} {n N : Nat → Nat} (h : Grow w3 w ga gb V U n N) {i : Nat} (hi : i < 4) : ∃ A c, U i = .slice A (N i) c := by
  obtain ⟨A, c, e⟩ := Kd.R_slice (h.new i hi)
  exact ⟨A, c, by rw [e, ownL_len]⟩
theorem Grow.sliceV {w3 w : World} {ga gb : Nat} {V U : Nat → Value} {n N : Nat → Nat} (h : Grow w3 w ga gb V U n N) {i : Nat} (hi : i < 4) : ∃ A c, V i = .slice A (n i) c := by
  obtain ⟨A, c, e⟩ := Kd.R_slice (h.old i hi)
  exact ⟨A, c, by rw [e, ownL_len]⟩
theorem own_at {w : World} {B : Nat} {ok : Nat → Prop} {v : Value} {i n j : Nat} (h : Kd.R (Kd.int .i64) 3 w B ok v (ownL i n)) (hj : j < n) : ∃ g c, v = .slice (some ⟨g, 0, none⟩) n c ∧ w.cell? ⟨g, j, none⟩ = some (.int .i64 (-1000 * ((i : Int) + 1) - (j : Int))) := by
  obtain ⟨g, c, e, _⟩ := Kd.R_form h (by rw [ownL_len]; omega)
  rw [e] at h
  have h2 := (Kd.R_celln (0 : Int) h (j : Int) (by omega) (by rw [ownL_len]; omega)).1
  refine ⟨g, c, by rw [e, ownL_len], ?_⟩
  rw [Int.toNat_natCast] at h2
  rw [h2]
  simp only [rdOf, Int.toNat_natCast, List.getD_eq_getElem?_getD, ownL_get hj, ownV, Option.getD_some]
theorem arr_frozen {w : World} {ga : Nat} {V : Nat → Value} (h : w.heap[ga]? = some (.cells #[V 0, V 1, V 2, V 3] 55 (0, 0))) {k : Nat} (hk : k < 4) : w.frozen? ⟨ga, k, none⟩ = false := by
  rcases lt4 hk with rfl | rfl | rfl | rfl <;> exact blk_frozen h _
theorem grow_append {ops : Array Oper} {rest : List Oper} {o : Oper} {a : Act} {Q : Exit → Act → World → Prop} {w3 W : World} {ga gb : Nat} {V U : Nat → Value} {n N : Nat → Nat} {i : Nat} (h : Grow w3 W ga gb V U n N) (hi : i < 4) (hgd : o.guard = none) (s x : Operand)
    (ho : o.op = .call { callee := .builtin .append, args := #[s, x], argTypes := #[27, 27] }) (v0 : Value) (hv0 : U i = v0) (hs : a.eval s = v0) (hx : a.eval x = .slice (some ⟨W.heap.size, 0, none⟩) 1 1) (hl : N i ≤ 2199023255552)
    (hK : ∀ v w', (Grow w3 (w'.setCell ⟨gb, i, none⟩ v) ga gb V (upd U i v) n (upd N i (N i + 1)) ∧ w'.heap[gb]? = some (.cells #[U 0, U 1, U 2, U 3] 55 (0, 0))) → wpList Try.prog ops Q rest (a.put o.dst v) w') :
    wpList Try.prog ops Q (o :: rest) a (W.alloc (.cells #[.int .i64 (ownV i (N i))] 3)) := by
  subst hv0
  obtain ⟨i0, hinf, hzz⟩ := Option.map_eq_some_iff.1 info_int
  simp only [Prod.mk.injEq] at hzz
  obtain ⟨hz0, hz1, hz2⟩ := hzz
  have hU := h.new i hi
  have hO := h.old i hi
  have hown := Kd.own_of_R hU
  rw [ownL_len] at hown
  have hnews : ∀ (j : Nat) (u : Value), [Value.int .i64 (ownV i (N i))][j]? = some u → (W.alloc (.cells #[.int .i64 (ownV i (N i))] 3)).cell? ((⟨W.heap.size, 0, none⟩ : Addr).add j) = some u := cell_one_new W (.int .i64 (ownV i (N i))) 3
  have hone : ∀ u ∈ [Value.int .i64 (ownV i (N i))], u.oneCell' = true := by intro u hu; rw [List.mem_singleton.1 hu]; rfl
  have hsz : (W.alloc (.cells #[.int .i64 (ownV i (N i))] 3)).heap.size = W.heap.size + 1 := by simp
  have hgr0 : W.grownBy (W.alloc (.cells #[.int .i64 (ownV i (N i))] 3)) (U i).ownBlock := World.grownBy_alloc W _ _
  have henc : encs (Value.int .i64) (ownL i (N i)) ++ [Value.int .i64 (ownV i (N i))] = encs (Value.int .i64) (ownL i (N i + 1)) := by rw [ownL_succ]; simp [encs]
  have hbase := h.b.size
  -- without room
  have full : ∀ (ao : Option Addr) (cap : Nat), U i = .slice ao (N i) cap → (ao = none → N i = 0 ∧ cap = 0) → cap < N i + 1 → wpList Try.prog ops Q (o :: rest) a (W.alloc (.cells #[.int .i64 (ownV i (N i))] 3)) := by
    intro ao cap he hn hc
    refine wpList_append_grows (W.alloc (.cells #[.int .i64 (ownV i (N i))] 3)) hgd s x 27 ho 3 i0 (.int .i64 0) 1 8 Try.underlying27 hinf hz0 hz1 hz2 rfl (by decide) ao (N i) cap (encs (Value.int .i64) (ownL i (N i))) (by rw [hs, he]) hn (by simp [encs, ownL_len]) ?_ ⟨W.heap.size, 0, none⟩ 1 1 _ hx (by simp) hnews hone hc (by simp only [maxLen]; omega) (by omega) ?_
    · intro b hb j u hj
      subst hb
      have h1 := hown.alloc (.cells #[.int .i64 (ownV i (N i))] 3)
      rcases h1.2 with ⟨q, _⟩ | ⟨g, c, cur, q, _⟩
      · rw [he] at q; cases q
      · have q1 : Value.slice (some b) (N i) cap = Value.slice (some ⟨g, 0, none⟩) (N i) c := he.symm.trans q
        simp only [Value.slice.injEq] at q1
        have hb : b = ⟨g, 0, none⟩ := Option.some.inj q1.1
        subst hb
        exact h1.cells (g := g) (by rw [q]; rfl) j u hj
    · intro v w' hv hg
      rw [henc, hsz] at hv
      have hg2 : (W.alloc (.cells #[.int .i64 (ownV i (N i))] 3)).grownBy w' (U i).ownBlock := ⟨hg.os, hg.tape, hg.output, hg.size, fun k hk _ => hg.block k hk (by simp)⟩
      have hR : Kd.R (Kd.int .i64) 3 w' (W.heap.size + 1) (fun _ => True) v (ownL i (N i + 1)) := Kd.R_of_own (by rw [ownL_len]; exact hv) (fun _ _ => trivial)
      refine hK v w' (Grow.upon h hi (by have := hg.size; rw [hsz] at this; omega) (Kd.R_lower hR (by omega)) (World.grownBy.trans hgr0 hg2) ?_ ?_)
      · cases hob : v.ownBlock with
        | none =>
          obtain ⟨g, c, e, _⟩ := Kd.R_form hR (by rw [ownL_len]; omega)
          rw [e] at hob; cases hob
        | some q => exact .inr ⟨q, rfl, by have := Kd.R_base hR q hob; omega⟩
      · exact Kd.R_mono (Kd.R_grown (Kd.R_alloc hO _) hg (fun _ _ => by simp)) (fun _ _ => trivial)
  rcases hown.2 with ⟨he, hn⟩ | ⟨g, cap, cur, he, hb, hg, hnc, hcm, hcs, htake⟩
  · exact full none 0 (by rw [he, hn]) (fun _ => ⟨hn, rfl⟩) (by omega)
  · by_cases hr : N i + 1 ≤ cap
    · have hown2 := hown.alloc (.cells #[.int .i64 (ownV i (N i))] 3)
      rw [he] at hown2
      refine wpList_append_own_spare (w := W.alloc (.cells #[.int .i64 (ownV i (N i))] 3)) (base := w3.heap.size) hgd s x 27 ho 3 i0 1 Try.underlying27 hinf hz1 g (N i) cap (encs (Value.int .i64) (ownL i (N i))) (by rw [hs, he]) hown2 ⟨W.heap.size, 0, none⟩ 1 1 _ hx (by simp) hnews hone hr ?_
      intro w' hv hg'
      rw [henc] at hv
      have hob : (U i).ownBlock = some g := by rw [he]; rfl
      have hR : Kd.R (Kd.int .i64) 3 w' w3.heap.size (fun _ => True) (.slice (some ⟨g, 0, none⟩) (N i + 1) cap) (ownL i (N i + 1)) := Kd.R_of_own (by rw [ownL_len]; exact hv) (fun _ _ => trivial)
      refine hK _ w' (Grow.upon h hi (by have := hg'.size; rw [hsz] at this; omega) hR (World.grownBy.trans hgr0 (by rw [hob]; exact hg')) (.inl (by rw [hob]; rfl)) ?_)
      by_cases hq : (V i).ownBlock = some g
      · have hownV := Kd.own_of_R hO
        rw [ownL_len] at hownV
        rcases hownV.2 with ⟨q, _⟩ | ⟨g2, c2, cur2, q, _⟩
        · rw [q] at hq; cases hq
        · have e2 : g2 = g := by rw [q] at hq; injection hq
          subst e2
          rw [he] at hown
          rw [q] at hownV
          have hc := own_cap hownV hown
          have hln := h.lie i hi (by rw [hob, q]; rfl)
          rw [q]
          exact Kd.R_of_own (by rw [ownL_len]; exact own_prefix hv hc (by omega) (ownL_take (by omega))) (fun _ _ => trivial)
      · refine Kd.R_mono (Kd.R_grown (Kd.R_alloc (Kd.R_tight rfl hO) _) hg' (fun k hk e => hq (by rw [← hk, e]))) (fun _ _ => trivial)
    · exact full (some ⟨g, 0, none⟩) cap he (by simp) (by omega)
end Go.Proofs.Ytboalbiicmcljaa.PAN
