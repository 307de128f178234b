import Derived.Test.YtocmldppefjbgaaUk4
import Derived.StillTailTactics
import Derived.IntWalk
import Derived.Deep.RegionLaw
import Derived.Deep.QuietTactic
import Derived.BigQuiet
import Derived.Deep.RegionHeld3
namespace Go.Proofs.Ytocmldppefjbgaa.PHU
open Go.RowKit Go.Proofs.YtocmldppefjbgaaW.PrintWords Go.Proofs.YtocmldppefjbgaaW.PrintLast Go.Proofs.YtocmldppefjbgaaW.PrintMore Go.Proofs.YtocmldppefjbgaaH
set_option linter.unusedVariables false
set_option linter.unusedSimpArgs false
open Go.Proofs.Ytocmldppefjbgaa.PHP (S92 k92 z92 rd_T92)
/-! ### search.put -/
/-- from block a on, colour y -/
def upC (c : Nat → Nat) (a y : Nat) (k : Nat) : Nat := if k < a then c k else y
theorem upC_old {c : Nat → Nat} {a y k : Nat} (h : k < a) : upC c a y k = c k := by unfold upC; rw [if_pos h]
theorem upC_new {c : Nat → Nat} {a y k : Nat} (h : a ≤ k) : upC c a y k = y := by unfold upC; rw [if_neg (by omega)]
section
variable {w : World} {ok : Nat → Prop} {c : Nat → Nat} {s gs : Nat} {vals : List Int} {cls : List (List Int × Int × Int)} {ph pl : List Int} {sp : List (List Value)} {added : Int} {v3 vph vst vpl v7 v9 v10 : Value}
theorem SV.nbox (h : SV w ok c s gs vals cls ph pl sp added v3 vph vst vpl v7 v9 v10) {k : Nat} (e : c k ≠ 4) : k ≠ s := fun q => e (q ▸ h.cs)
def stepV (A0 : Option Addr) (n c0 : Nat) : List Value := [.int .i64 1, .slice A0 n c0, .slice none 0 0, .slice none 0 0]
/-- The store has changed, and what is new has the colour 0. -/
theorem SV.store {w2 : World} {cls' : List (List Int × Int × Int)} (h : SV w ok c s gs vals cls ph pl sp added v3 vph vst vpl v7 v9 v10)
    (hs : St w2 (fun k => (ok k ∧ c k = 0) ∨ w.heap.size ≤ k) gs vals cls' []) (hr : Rest w w2 (fun k => ok k ∧ c k = 0)) :
    SV w2 (fun k => ok k ∨ w.heap.size ≤ k) (upC c w.heap.size 0) s gs vals cls' ph pl sp added v3 vph vst vpl v7 v9 v10 := by
  have hne : ∀ k, k < w.heap.size → c k ≠ 0 → w2.heap[k]? = w.heap[k]? := fun k hk hc => hr.block k hk (fun q => hc q.2)
  have hsl := blk_lt h.blk
  refine ⟨.inl h.os, by rw [upC_old hsl]; exact h.cs, (hne s hsl (by rw [h.cs]; decide)).trans h.blk, hs.mono (fun k q => ?_), ?_, ?_, ?_⟩
  · by_cases hk : k < w.heap.size
    · rw [upC_old hk]; exact q.elim (fun q => ⟨.inl q.1, q.2⟩) (fun q => by omega)
    · rw [upC_new (by omega)]; exact ⟨.inr (by omega), rfl⟩
  · exact Kd.R_mono (Kd.R_step (Kd.R_bound h.rph) (fun k q hk => hne k hk (by have := q.1.2; omega))) (fun k q => ⟨.inl q.1.1, by rw [upC_old q.2.2.1]; exact q.1.2⟩)
  · exact Kd.R_mono (Kd.R_step (Kd.R_bound h.rst) (fun k q hk => hne k hk (by have := q.1.2; omega))) (fun k q => ⟨.inl q.1.1, by rw [upC_old q.2.2.1]; exact q.1.2⟩)
  · exact Kd.R_mono (Kd.R_step (Kd.R_bound h.rpl) (fun k q hk => hne k hk (by have := q.1.2; omega))) (fun k q => ⟨.inl q.1.1, by rw [upC_old q.2.2.1]; exact q.1.2⟩)
/-- What was grown beside one row, and the field's cell: all else stays. -/
theorem SV.places {w2 : World} {vpl' : Value} {pl' : List Int} (h : SV w ok c s gs vals cls ph pl sp added v3 vph vst vpl v7 v9 v10)
    (ho : Kd.R (Kd.int .i64) 3 w2 0 (fun k => (ok k ∨ w.heap.size ≤ k) ∧ upC c w.heap.size 3 k = 3) vpl' pl') (hg : w.grownBy w2 vpl.ownBlock) :
    SV (w2.setCell ⟨s, 6, none⟩ vpl') (fun k => ok k ∨ w.heap.size ≤ k) (upC c w.heap.size 3) s gs vals cls ph pl' sp added v3 vph vst vpl' v7 v9 v10 ∧ Rest w (w2.setCell ⟨s, 6, none⟩ vpl') ok := by
  have hsl := blk_lt h.blk
  have hne : ∀ k, k < w.heap.size → c k ≠ 3 → w2.heap[k]? = w.heap[k]? := fun k hk hc => hg.block k hk (fun e => hc (h.rpl.1 k e.symm).2)
  have hb2 := (hne s hsl (by rw [h.cs]; decide)).trans h.blk
  have hset : ∀ k, k ≠ s → (w2.setCell ⟨s, 6, none⟩ vpl').heap[k]? = w2.heap[k]? := fun k hk => Below.heap_setCell w2 ⟨s, 6, none⟩ _ k hk
  have old : ∀ k, k < w.heap.size → c k ≠ 3 → c k ≠ 4 → (w2.setCell ⟨s, 6, none⟩ vpl').heap[k]? = w.heap[k]? := fun k hk h3 h4 => (hset k (h.nbox h4)).trans (hne k hk h3)
  refine ⟨⟨.inl h.os, by rw [upC_old hsl]; exact h.cs, by have := blk_set hb2 6 vpl'; simpa using this, ?_, ?_, ?_, ?_⟩, ?_⟩
  · exact (h.st.bound.step (fun k q hk => old k hk (by have := q.1.2; omega) (by have := q.1.2; omega))).mono (fun k q => ⟨.inl q.1.1, by rw [upC_old q.2]; exact q.1.2⟩)
  · exact Kd.R_mono (Kd.R_step (Kd.R_bound h.rph) (fun k q hk => old k hk (by have := q.1.2; omega) (by have := q.1.2; omega))) (fun k q => ⟨.inl q.1.1, by rw [upC_old q.2.2.1]; exact q.1.2⟩)
  · exact Kd.R_mono (Kd.R_step (Kd.R_bound h.rst) (fun k q hk => old k hk (by have := q.1.2; omega) (by have := q.1.2; omega))) (fun k q => ⟨.inl q.1.1, by rw [upC_old q.2.2.1]; exact q.1.2⟩)
  · exact Kd.R_step ho (fun k q _ => hset k (fun e => by have := q.2; rw [e, upC_old hsl, h.cs] at this; omega))
  · exact ((Rest.refl w ok).grown hg (fun k e _ => (h.rpl.1 k e).1)).set (p := ⟨s, 6, none⟩) h.os _
theorem SV.steps {w2 : World} {vst' : Value} {sp' : List (List Value)} (h : SV w ok c s gs vals cls ph pl sp added v3 vph vst vpl v7 v9 v10)
    (ho : Kd.R (Kd.raw 4) 72 w2 0 (fun k => (ok k ∨ w.heap.size ≤ k) ∧ upC c w.heap.size 2 k = 2) vst' sp') (hg : w.grownBy w2 vst.ownBlock) :
    SV (w2.setCell ⟨s, 5, none⟩ vst') (fun k => ok k ∨ w.heap.size ≤ k) (upC c w.heap.size 2) s gs vals cls ph pl sp' added v3 vph vst' vpl v7 v9 v10 ∧ Rest w (w2.setCell ⟨s, 5, none⟩ vst') ok := by
  have hsl := blk_lt h.blk
  have hne : ∀ k, k < w.heap.size → c k ≠ 2 → w2.heap[k]? = w.heap[k]? := fun k hk hc => hg.block k hk (fun e => hc (h.rst.1 k e.symm).2)
  have hb2 := (hne s hsl (by rw [h.cs]; decide)).trans h.blk
  have hset : ∀ k, k ≠ s → (w2.setCell ⟨s, 5, none⟩ vst').heap[k]? = w2.heap[k]? := fun k hk => Below.heap_setCell w2 ⟨s, 5, none⟩ _ k hk
  have old : ∀ k, k < w.heap.size → c k ≠ 2 → c k ≠ 4 → (w2.setCell ⟨s, 5, none⟩ vst').heap[k]? = w.heap[k]? := fun k hk h3 h4 => (hset k (h.nbox h4)).trans (hne k hk h3)
  refine ⟨⟨.inl h.os, by rw [upC_old hsl]; exact h.cs, by have := blk_set hb2 5 vst'; simpa using this, ?_, ?_, ?_, ?_⟩, ?_⟩
  · exact (h.st.bound.step (fun k q hk => old k hk (by have := q.1.2; omega) (by have := q.1.2; omega))).mono (fun k q => ⟨.inl q.1.1, by rw [upC_old q.2]; exact q.1.2⟩)
  · exact Kd.R_mono (Kd.R_step (Kd.R_bound h.rph) (fun k q hk => old k hk (by have := q.1.2; omega) (by have := q.1.2; omega))) (fun k q => ⟨.inl q.1.1, by rw [upC_old q.2.2.1]; exact q.1.2⟩)
  · exact Kd.R_step ho (fun k q _ => hset k (fun e => by have := q.2; rw [e, upC_old hsl, h.cs] at this; omega))
  · exact Kd.R_mono (Kd.R_step (Kd.R_bound h.rpl) (fun k q hk => old k hk (by have := q.1.2; omega) (by have := q.1.2; omega))) (fun k q => ⟨.inl q.1.1, by rw [upC_old q.2.2.1]; exact q.1.2⟩)
  · exact ((Rest.refl w ok).grown hg (fun k e _ => (h.rst.1 k e).1)).set (p := ⟨s, 5, none⟩) h.os _
theorem SV.newstep {ok' : Nat → Prop} {w1 : World} (h : SV w ok c s gs vals cls ph pl sp added v3 vph vst vpl v7 v9 v10) (hk : ∀ k, ok k → ok' k) (hb : Below w.heap.size w w1) : SV w1 (fun k => ok' k ∨ w.heap.size ≤ k) (upC c w.heap.size 5) s gs vals cls ph pl sp added v3 vph vst vpl v7 v9 v10 := by
  have hsl := blk_lt h.blk
  refine ⟨.inl (hk _ h.os), by rw [upC_old hsl]; exact h.cs, (hb.block s hsl).trans h.blk, (h.st.bound.step (fun k q hk => hb.block k hk)).mono (fun k q => ⟨.inl (hk k q.1.1), by rw [upC_old q.2]; exact q.1.2⟩), ?_, ?_, ?_⟩
  all_goals first
    | exact Kd.R_mono (Kd.R_step (Kd.R_bound h.rph) (fun k q hk => hb.block k hk)) (fun k q => ⟨.inl (hk k q.1.1), by rw [upC_old q.2.2.1]; exact q.1.2⟩)
    | exact Kd.R_mono (Kd.R_step (Kd.R_bound h.rst) (fun k q hk => hb.block k hk)) (fun k q => ⟨.inl (hk k q.1.1), by rw [upC_old q.2.2.1]; exact q.1.2⟩)
    | exact Kd.R_mono (Kd.R_step (Kd.R_bound h.rpl) (fun k q hk => hb.block k hk)) (fun k q => ⟨.inl (hk k q.1.1), by rw [upC_old q.2.2.1]; exact q.1.2⟩)
theorem SV.mono {ok' : Nat → Prop} (h : SV w ok c s gs vals cls ph pl sp added v3 vph vst vpl v7 v9 v10) (hk : ∀ k, ok k → ok' k) : SV w ok' c s gs vals cls ph pl sp added v3 vph vst vpl v7 v9 v10 :=
  ⟨hk _ h.os, h.cs, h.blk, h.st.mono (fun k q => ⟨hk k q.1, q.2⟩), Kd.R_mono h.rph (fun k q => ⟨hk k q.1, q.2⟩), Kd.R_mono h.rst (fun k q => ⟨hk k q.1, q.2⟩), Kd.R_mono h.rpl (fun k q => ⟨hk k q.1, q.2⟩)⟩
end

section
variable {w : World} {ok : Nat → Prop} {c : Nat → Nat} {s gs : Nat} {vals : List Int} {cls : List (List Int × Int × Int)} {ph pl : List Int} {sp : List (List Value)} {added : Int} {v3 vph vst vpl v7 v9 v10 : Value}
theorem rest_drew {w1 w2 : World} {ok' : Nat → Prop} (h : Rest w1.drew w2 ok') : Rest w1 w2 ok' := ⟨h.os, h.tape, h.output, h.size, h.block⟩
theorem put_store {w1 w2 : World} {cls' : List (List Int × Int × Int)} {cur : Array Value} {t : Nat} (hb : Below w.heap.size w w1) (hx : w1.heap[w.heap.size]? = some (.cells cur t (0, 0)))
    (h : SV w1 (fun k => ok k ∨ w.heap.size ≤ k) (upC c w.heap.size 5) s gs vals cls ph pl sp added v3 vph vst vpl v7 v9 v10) {cur0 : Array Value} {t0 : Nat} (hb0 : w.heap[s]? = some (.cells cur0 t0 (0, 0)))
    (hst : St w2 (fun k => ((ok k ∨ w.heap.size ≤ k) ∧ upC c w.heap.size 5 k = 0) ∨ w1.heap.size ≤ k) gs vals cls' []) (hr : Rest w1 w2 (fun k => (ok k ∨ w.heap.size ≤ k) ∧ upC c w.heap.size 5 k = 0)) :
    SV w2 (fun k => ok k ∨ w.heap.size ≤ k) (upC (upC c w.heap.size 5) w1.heap.size 0) s gs vals cls' ph pl sp added v3 vph vst vpl v7 v9 v10 ∧ w2.heap[w.heap.size]? = some (.cells cur t (0, 0)) ∧ Rest w w2 ok :=
  ⟨(h.store hst hr).mono (fun k q => q.elim id (fun q => .inr (Nat.le_trans hb.size q))), (hr.block _ (blk_lt hx) (fun q => by have := q.2; rw [upC_new (Nat.le_refl _)] at this; omega)).trans hx,
    (Rest.of_below hb ok).trans hr (fun k hk q => q.1.elim id (fun q => by omega))⟩
theorem put_drew {w2 : World} {n : Nat} {cls' : List (List Int × Int × Int)} {cur : Array Value} {t b : Nat} {c' : Nat → Nat} {ok' : Nat → Prop}
    (h : SV w2 ok' c' s gs vals cls' ph pl sp added v3 vph vst vpl v7 v9 v10 ∧ w2.heap[b]? = some (.cells cur t (0, 0)) ∧ Rest w w2 ok) :
    SV (w2.drewN n) ok' c' s gs vals cls' ph pl sp added v3 vph vst vpl v7 v9 v10 ∧ (w2.drewN n).heap[b]? = some (.cells cur t (0, 0)) ∧ Rest w (w2.drewN n) ok :=
  ⟨h.1.step (fun _ _ _ => rfl), h.2.1, h.2.2.drewN n⟩
theorem stepV_one {A0 : Option Addr} {n c0 : Nat} : ∀ (u : Value), u ∈ stepV A0 n c0 → u.oneCell' = true := by
  intro u hu
  simp only [stepV, List.mem_cons, List.not_mem_nil, or_false] at hu
  rcases hu with rfl | rfl | rfl | rfl <;> rfl
theorem grown_drew {w1 w2 : World} {row : Option Nat} (h : w1.drew.grownBy w2 row) : w1.grownBy w2 row := ⟨h.os, h.tape, h.output, h.size, h.block⟩
theorem put_places {w1 w2 : World} {cur : Array Value} {t b : Nat} {vpl' : Value} {pl' : List Int} (hw : w.heap.size ≤ w1.heap.size)
    (h : SV w1 (fun k => ok k ∨ w.heap.size ≤ k) c s gs vals cls ph pl sp added v3 vph vst vpl v7 v9 v10 ∧ w1.heap[b]? = some (.cells cur t (0, 0)) ∧ Rest w w1 ok) (hbs : b ≠ s) (hcb : c b ≠ 3)
    (ho : Kd.R (Kd.int .i64) 3 w2 0 (fun k => ((ok k ∨ w.heap.size ≤ k) ∨ w1.heap.size ≤ k) ∧ upC c w1.heap.size 3 k = 3) vpl' pl') (hg : w1.grownBy w2 vpl.ownBlock) :
    ∃ c', SV (w2.setCell ⟨s, 6, none⟩ vpl') (fun k => ok k ∨ w.heap.size ≤ k) c' s gs vals cls ph pl' sp added v3 vph vst vpl' v7 v9 v10 ∧ (w2.setCell ⟨s, 6, none⟩ vpl').heap[b]? = some (.cells cur t (0, 0)) ∧ Rest w (w2.setCell ⟨s, 6, none⟩ vpl') ok ∧ c' b = c b := by
  obtain ⟨p1, p2⟩ := h.1.places ho hg
  exact ⟨_, p1.mono (fun k q => q.elim id (fun q => .inr (Nat.le_trans hw q))), ((Below.heap_setCell w2 ⟨s, 6, none⟩ _ b hbs).trans (hg.block b (blk_lt h.2.1) (fun e => hcb (h.1.rpl.1 b e.symm).2))).trans h.2.1, h.2.2.trans p2 (fun k hk q => q.elim id (fun q => by omega)), upC_old (blk_lt h.2.1)⟩
theorem put_steps {w1 w2 : World} {vst' : Value} {sp' : List (List Value)} (hw : w.heap.size ≤ w1.heap.size)
    (h : SV w1 (fun k => ok k ∨ w.heap.size ≤ k) c s gs vals cls ph pl sp added v3 vph vst vpl v7 v9 v10 ∧ Rest w w1 ok)
    (ho : Kd.R (Kd.raw 4) 72 w2 0 (fun k => ((ok k ∨ w.heap.size ≤ k) ∨ w1.heap.size ≤ k) ∧ upC c w1.heap.size 2 k = 2) vst' sp') (hg : w1.grownBy w2 vst.ownBlock) :
    (∃ c', SV (w2.setCell ⟨s, 5, none⟩ vst') (fun k => ok k ∨ w.heap.size ≤ k) c' s gs vals cls ph pl sp' added v3 vph vst' vpl v7 v9 v10) ∧ Rest w (w2.setCell ⟨s, 5, none⟩ vst') ok := by
  obtain ⟨p1, p2⟩ := h.1.steps ho hg
  exact ⟨⟨_, p1.mono (fun k q => q.elim id (fun q => .inr (Nat.le_trans hw q)))⟩, h.2.trans p2 (fun k hk q => q.elim id (fun q => by omega))⟩
set_option maxRecDepth 100000 in
set_option maxHeartbeats 8000000 in
theorem sv_put (A0 : Option Addr) (c0 : Nat) (l0 : List Int) (h : SV w ok c s gs vals cls ph pl sp added v3 vph vst vpl v7 v9 v10) (hr0 : Kd.C (Kd.int .i64) w A0 l0.length l0) (hv : Vals vals) (hb : litsOk vals l0 = true) (hn : cls.length < 1048576) (hl0 : l0.length ≤ 4194304) (hpl : pl.length ≤ 4194304) (hsp : sp.length ≤ 4194304) :
    Calls Try.prog 35 #[.pointer (some ⟨s, 0, none⟩), .agg #[.int .i64 1, .slice A0 l0.length c0, .slice none 0 0, .slice none 0 0]] w fun e w' => e = .returned (.int .i64 (cls.length : Int)) ∧ (∃ c' vst' vpl', SV w' (fun k => ok k ∨ w.heap.size ≤ k) c' s gs vals (cls ++ [(l0, 0, 0)]) ph (pl ++ [(sp.length : Int)]) (sp ++ [stepV A0 l0.length c0]) added v3 vph vst' vpl' v7 v9 v10) ∧ Rest w w' ok := by
  obtain ⟨Apl, cpl, rfl⟩ := Kd.R_slice h.rpl
  obtain ⟨Ast, cst, rfl⟩ := Kd.R_slice h.rst
  have HN := Aside0.mk (And.intro hv (And.intro hb (And.intro hn (And.intro hl0 (And.intro hpl hsp)))))
  have H := Aside0.mk h
  have HR0 := Aside0.mk hr0
  clear h hr0 hv hb hn hl0 hpl hsp
  go_enter Try.func35, Try.ntmps35
  go_upto_region 1 with fail
  obtain ⟨w1, hw1⟩ : ∃ w', w' = w.alloc (.cells #[.int .i64 1, .slice A0 l0.length c0, .slice none 0 0, .slice none 0 0] 72) := ⟨_, rfl⟩
  have hb1 : Below w.heap.size w w1 := by rw [hw1]; exact below_alloc (Below.refl _ _) _
  have hx1 : w1.heap[w.heap.size]? = some (.cells #[.int .i64 1, .slice A0 l0.length c0, .slice none 0 0, .slice none 0 0] 72 (0, 0)) := by rw [hw1]; exact heap_alloc_new _ _
  have HB1 := Aside0.mk (And.intro hb1 (And.intro hx1 (H.out.newstep (ok' := ok) (fun _ h => h) hb1)))
  rw [← hw1]
  have c2 := blk_cell HB1.out.2.2.blk 2
  have b1 := blk_cell hx1 1
  have HSL : Aside0 (s < w1.heap.size ∧ w.heap.size < w1.heap.size ∧ w.heap.size ≠ s) := ⟨blk_lt HB1.out.2.2.blk, blk_lt hx1, fun e => by have := blk_lt H.out.blk; omega⟩
  have HRD : Aside0 (Kd.C (Kd.int .i64) w1 A0 l0.length l0) := ⟨Kd.C_below HR0.out hb1⟩
  clear hw1 hb1 hx1
  go_cut [5] (fun s5 wx => s5 = .int .i64 (cls.length : Int) ∧ Aside0 (SV wx (fun k => ok k ∨ w.heap.size ≤ k) (upC (upC c w.heap.size 5) w1.heap.size 0) s gs vals (cls ++ [(l0, 0, 0)]) ph pl sp added v3 vph (.slice Ast sp.length cst) (.slice Apl pl.length cpl) v7 v9 v10 ∧ wx.heap[w.heap.size]? = some (.cells #[.int .i64 1, .slice A0 l0.length c0, .slice none 0 0, .slice none 0 0] 72 (0, 0)) ∧ Rest w wx ok))
  case first =>
    refine wp_region_noPanic ?_
    go_region_held3 (fun w' => w'.cell? ⟨s, 2, none⟩ = some (.pointer (some ⟨gs, 0, none⟩)) ∧ w'.cell? ⟨w.heap.size, 1, none⟩ = some (.slice A0 l0.length c0)) (first | assumption | go_keep)
      (first
        | (go_at_call 53; go_loud (refine (st_Add _ gs vals cls [] A0 c0 l0 _ (by first | exact HRD.out | exact Kd.C_below HRD.out (below_drew1 (Below.refl _ _))) (by first | exact HB1.out.2.2.st | exact HB1.out.2.2.st.step (fun _ _ _ => rfl)) HN.out.1 HN.out.2.1 HN.out.2.2.1 HN.out.2.2.2.1).mono ?_; rintro e w3 ⟨rfl, hst, hr⟩; have hr := rest_drew hr; have h3 := put_store HB1.out.1 HB1.out.2.1 HB1.out.2.2 H.out.blk hst hr; have H3 := Aside0.mk h3; have hk := And.intro (blk_cell h3.1.blk 2) (blk_cell h3.2.1 1); clear hst hr h3)))
    all_goals
      refine NoPanic.normal ?_
      go_step
      go_step
      go_meet
      exact ⟨rfl, ⟨by first | exact H3.out | exact put_drew H3.out⟩⟩
  case rest =>
    obtain ⟨rfl, HX⟩ := hcut
    have HBS : Aside0 (w.heap.size ≠ s) := ⟨HSL.out.2.2⟩
    have HCB : Aside0 (upC (upC c w.heap.size 5) w1.heap.size 0 w.heap.size ≠ 3) := ⟨by rw [upC_old HSL.out.2.1, upC_new (Nat.le_refl _)]; decide⟩
    clear HB1 HRD c2 b1
    have c5 := blk_cell HX.out.1.blk 5
    have c6 := blk_cell HX.out.1.blk 6
    have f6 := blk_frozen HX.out.1.blk 6
    have c6a : ∀ o : Obj, (wc.alloc o).cell? ⟨s, 6, none⟩ = some (.slice Apl pl.length cpl) := fun o => ((below_alloc (Below.refl wc.heap.size wc) o).cell (blk_lt HX.out.1.blk)).trans c6
    have c5a : ∀ o : Obj, (wc.alloc o).cell? ⟨s, 5, none⟩ = some (.slice Ast sp.length cst) := fun o => ((below_alloc (Below.refl wc.heap.size wc) o).cell (blk_lt HX.out.1.blk)).trans c5
    go_upto_region 2 with fail
    go_cut [] (fun wy => ∃ c' vpl', Aside0 (SV wy (fun k => ok k ∨ w.heap.size ≤ k) c' s gs vals (cls ++ [(l0, 0, 0)]) ph (pl ++ [(sp.length : Int)]) sp added v3 vph (.slice Ast sp.length cst) vpl' v7 v9 v10 ∧ wy.heap[w.heap.size]? = some (.cells #[.int .i64 1, .slice A0 l0.length c0, .slice none 0 0, .slice none 0 0] 72 (0, 0)) ∧ Rest w wy ok))
    case first =>
      go_region_law (refine R_append_drew (Kd.int .i64) (w0 := wc) 0 rfl (.tmp 21) (.tmp 27) 22 3 (.int .i64 0) 8 rfl Try.underlying22 info_int rfl (by decide) (by omega) (.slice Apl pl.length cpl) pl (sp.length : Int) [.int .i64 (sp.length : Int)] (fun k => ((ok k ∨ w.heap.size ≤ k) ∨ wc.heap.size ≤ k) ∧ upC (upC (upC c w.heap.size 5) w1.heap.size 0) wc.heap.size 3 k = 3) (fun _ => False) (by simp [Act.eval, Act.put]) (by simp [Act.eval, Act.put]) ?aP (fun _ hk => hk.elim) ?aF ?aO ?aB ?aS ?aL ?_; (case aP => exact rfl); (case aF => exact fun k hk => ⟨.inr hk, upC_new hk⟩); (case aO => exact Kd.R_drew (Kd.R_mono (Kd.R_bound HX.out.1.rpl) (fun k q => ⟨.inl q.1.1, by rw [upC_old q.2.2.1]; exact q.1.2⟩))); (case aB => exact ⟨rfl, rfl, rfl, Nat.le_refl _, fun _ h => by omega⟩); (case aS => exact Nat.zero_le _); (case aL => have := HN.out.2.2.2.2.1; omega); intro v1 w3 ho hb hg hat; obtain ⟨A1, cc1, rfl⟩ := Kd.R_slice ho; have hb1 := (hg.block s (blk_lt HX.out.1.blk) (fun e => by have h8 := (HX.out.1.rpl.1 s e.symm).2; have h9 := HX.out.1.cs; omega)).trans HX.out.1.blk; have k6 := blk_cell hb1 6; have k6f := blk_frozen hb1 6; rw [List.length_append, List.length_singleton] at ho hat; have HO1 := Aside0.mk ho; have HG1 := Aside0.mk hg; clear ho hb hg hat hb1)
      all_goals
        rename_i hJ hM
        refine hM _ _ (Met.intro (hJ _ _ ?_))
        (repeat apply Exists.intro)
        refine ⟨?_, rfl⟩
        have hq := put_places HX.out.2.2.size HX.out HBS.out HCB.out HO1.out (grown_drew HG1.out)
        obtain ⟨c', hq⟩ := hq
        exact ⟨c', _, ⟨by first | exact ⟨hq.1, hq.2.1, hq.2.2.1⟩ | exact put_drew ⟨hq.1, hq.2.1, hq.2.2.1⟩⟩⟩
    case rest =>
      obtain ⟨c', vpl', HY⟩ := hcut
      clear c5 c6 f6 c6a c5a
      have c5 := blk_cell HY.out.1.blk 5
      have f5 := blk_frozen HY.out.1.blk 5
      have c5a : ∀ o : Obj, (wc.alloc o).cell? ⟨s, 5, none⟩ = some (.slice Ast sp.length cst) := fun o => ((below_alloc (Below.refl wc.heap.size wc) o).cell (blk_lt HY.out.1.blk)).trans c5
      have b0 := blk_cell HY.out.2.1 0
      have b1 := blk_cell HY.out.2.1 1
      have b2 := blk_cell HY.out.2.1 2
      have b3 := blk_cell HY.out.2.1 3
      go_upto_region 3 with fail
      go_region_law (refine R_append_drew (Kd.raw 4) (w0 := wc) 0 rfl (.tmp 35) (.tmp 37) 61 72 (.agg #[.int .i64 0, .slice none 0 0, .slice none 0 0, .slice none 0 0]) 80 rfl Try.underlying61 info_step rfl (by decide) (by omega) (.slice Ast sp.length cst) sp (stepV A0 l0.length c0) (stepV A0 l0.length c0) (fun k => ((ok k ∨ w.heap.size ≤ k) ∨ wc.heap.size ≤ k) ∧ upC c' wc.heap.size 2 k = 2) (fun _ => False) (by simp [Act.eval, Act.put]) (by simp [Act.eval, Act.put]) ?aP (fun _ hk => hk.elim) ?aF ?aO ?aB ?aS ?aL ?_; (case aP => exact ⟨rfl, rfl, stepV_one⟩); (case aF => exact fun k hk => ⟨.inr hk, upC_new hk⟩); (case aO => exact Kd.R_drew (Kd.R_mono (Kd.R_bound HY.out.1.rst) (fun k q => ⟨.inl q.1.1, by rw [upC_old q.2.2.1]; exact q.1.2⟩))); (case aB => exact ⟨rfl, rfl, rfl, Nat.le_refl _, fun _ h => by omega⟩); (case aS => exact Nat.zero_le _); (case aL => have := HN.out.2.2.2.2.2; omega); intro v1 w3 ho hb hg hat; obtain ⟨A1, cc1, rfl⟩ := Kd.R_slice ho; have hb1 := (hg.block s (blk_lt HY.out.1.blk) (fun e => by have h8 := (HY.out.1.rst.1 s e.symm).2; have h9 := HY.out.1.cs; omega)).trans HY.out.1.blk; have k5 := blk_cell hb1 5; have k5f := blk_frozen hb1 5; rw [List.length_append, List.length_singleton] at ho hat; have HO1 := Aside0.mk ho; have HG1 := Aside0.mk hg; clear ho hb hg hat hb1)
      all_goals
        have hq := put_steps HY.out.2.2.size ⟨HY.out.1, HY.out.2.2⟩ HO1.out (grown_drew HG1.out)
        have HQ := Aside0.mk hq
        clear hq HO1 HG1 b0 b1 b2 b3 c5 c5a f5 k5 k5f
        go_wp2
        go_ret
        obtain ⟨⟨c2, hq⟩, hr⟩ := HQ.out
        exact ⟨rfl, ⟨c2, _, _, hq.step (fun _ _ _ => rfl)⟩, ⟨hr.os, hr.tape, hr.output, hr.size, hr.block⟩⟩
end

end Go.Proofs.Ytocmldppefjbgaa.PHU
