import Derived.Test.YtocmldppefjbgaaHp0
import Derived.Test.YtocmldppefjbgaaHStep
namespace Go.Proofs.Ytocmldppefjbgaa.PHP
open Go.RowKit Go.Proofs.YtocmldppefjbgaaW.PrintWords Go.Proofs.YtocmldppefjbgaaW.PrintLast Go.Proofs.YtocmldppefjbgaaW.PrintMore Go.Proofs.YtocmldppefjbgaaH
set_option linter.unusedVariables false
set_option linter.unusedSimpArgs false
/-! ### the heap in memory -/
abbrev pG (g : Nat) : Value := .pointer (some ⟨g, 0, none⟩)
def il (pl : List Int) : Array Value := (pl.map (Value.int .i64)).toArray
def fl (sc : List Nat) : Array Value := (sc.map (Value.float .f64)).toArray
theorem il_get (l : List Int) {i : Nat} (h : i < l.length) : (il l)[i]? = some (.int .i64 (gI l i)) := by
  simp only [il, List.getElem?_toArray, List.getElem?_map, gI_some h, Option.map_some]
theorem fl_get (sc : List Nat) {i : Nat} (h : i < sc.length) : (fl sc)[i]? = some (.float .f64 (gW sc (i : Int))) := by
  have e : sc[i]? = some (gW sc (i : Int)) := by simp [gW, List.getD_eq_getElem?_getD, h]
  simp only [fl, List.getElem?_toArray, List.getElem?_map, e, Option.map_some]
theorem il_set (l : List Int) (i : Nat) (x : Int) : (il l).setIfInBounds i (.int .i64 x) = il (l.set i x) := by simp [il, List.map_set]
theorem fl_set (l : List Nat) (i : Nat) (x : Nat) : (fl l).setIfInBounds i (.float .f64 x) = fl (l.set i x) := by simp [fl, List.map_set]
abbrev off (g hb gs gp k : Nat) : Prop := k ≠ g ∧ k ≠ hb ∧ k ≠ gs ∧ k ≠ gp
/-- A heap at block g: its queue l, its scores, places and step. -/
structure HM (w : World) (ok : Nat → Prop) (g hb gs gp : Nat) (vl : Value) (l : List Int) (sc : List Nat) (pl : List Int) (st : Nat) : Prop where
  og : ok g
  ob : ok hb
  os : ok gs
  op : ok gp
  blk : w.heap[g]? = some (.cells #[vl, .func (.func 47) #[.pointer (some ⟨g, 0, none⟩)] #[], .func (.func 57) #[] #[.pointer (some ⟨hb, 0, none⟩)], .slice (some ⟨gs, 0, none⟩) sc.length sc.length, .slice (some ⟨gp, 0, none⟩) pl.length pl.length, .float .f64 st] 80 (0, 0))
  box : w.heap[hb]? = some (.cells #[.pointer (some ⟨g, 0, none⟩)] 36 (0, 0))
  bs : w.heap[gs]? = some (.cells (fl sc) 41 (0, 0))
  bp : w.heap[gp]? = some (.cells (il pl) 3 (0, 0))
  rl : Kd.R (Kd.int .i64) 3 w 0 (fun k => ok k ∧ off g hb gs gp k) vl l
section
variable {w : World} {ok : Nat → Prop} {g hb gs gp : Nat} {vl : Value} {l : List Int} {sc : List Nat} {pl : List Int} {st : Nat}
theorem HM.step {w1 : World} (h : HM w ok g hb gs gp vl l sc pl st) (hm : ∀ k, ok k → k < w.heap.size → w1.heap[k]? = w.heap[k]?) : HM w1 ok g hb gs gp vl l sc pl st :=
  ⟨h.og, h.ob, h.os, h.op, (hm g h.og (blk_lt h.blk)).trans h.blk, (hm hb h.ob (blk_lt h.box)).trans h.box, (hm gs h.os (blk_lt h.bs)).trans h.bs, (hm gp h.op (blk_lt h.bp)).trans h.bp, Kd.R_step h.rl (fun k hk => hm k hk.1)⟩
theorem HM.mono {ok' : Nat → Prop} (h : HM w ok g hb gs gp vl l sc pl st) (hk : ∀ k, ok k → ok' k) : HM w ok' g hb gs gp vl l sc pl st :=
  ⟨hk g h.og, hk hb h.ob, hk gs h.os, hk gp h.op, h.blk, h.box, h.bs, h.bp, Kd.R_mono h.rl (fun k q => ⟨hk k q.1, q.2⟩)⟩
theorem HM.bound (h : HM w ok g hb gs gp vl l sc pl st) : HM w (fun k => ok k ∧ k < w.heap.size) g hb gs gp vl l sc pl st :=
  ⟨⟨h.og, blk_lt h.blk⟩, ⟨h.ob, blk_lt h.box⟩, ⟨h.os, blk_lt h.bs⟩, ⟨h.op, blk_lt h.bp⟩, h.blk, h.box, h.bs, h.bp, Kd.R_mono (Kd.R_bound h.rl) (fun k q => ⟨⟨q.1.1, q.2.2.1⟩, q.1.2⟩)⟩
theorem HM.below {w1 : World} (h : HM w ok g hb gs gp vl l sc pl st) (hb' : Below w.heap.size w w1) : HM w1 ok g hb gs gp vl l sc pl st := h.step (fun k _ hk => hb'.block k hk)
theorem HM.drawn {w1 : World} (h : HM w ok g hb gs gp vl l sc pl st) (hd : Drawn0 w w1) : HM w1 ok g hb gs gp vl l sc pl st := h.below hd.below
theorem ty_ne {w : World} {a b : Nat} {c d : Array Value} {s t : Nat} (ha : w.heap[a]? = some (.cells c s (0, 0))) (hb : w.heap[b]? = some (.cells d t (0, 0))) (h : s ≠ t) : a ≠ b := by
  intro e
  subst e
  rw [ha] at hb
  injection hb with hb
  injection hb with _ hb
  exact h hb
theorem HM.apart (h : HM w ok g hb gs gp vl l sc pl st) : g ≠ hb ∧ g ≠ gs ∧ g ≠ gp ∧ hb ≠ gs ∧ hb ≠ gp ∧ gs ≠ gp :=
  ⟨ty_ne h.blk h.box (by decide), ty_ne h.blk h.bs (by decide), ty_ne h.blk h.bp (by decide), ty_ne h.box h.bs (by decide), ty_ne h.box h.bp (by decide), ty_ne h.bs h.bp (by decide)⟩
/-- a place is written -/
theorem HM.setp (h : HM w ok g hb gs gp vl l sc pl st) (i : Nat) (x : Int) : HM (w.setCell ⟨gp, i, none⟩ (.int .i64 x)) ok g hb gs gp vl l sc (pl.set i x) st := by
  obtain ⟨h1, h2, h3, h4, h5, h6⟩ := h.apart
  refine ⟨h.og, h.ob, h.os, h.op, ?_, blk_far h.box h5 _, blk_far h.bs h6 _, ?_, Kd.R_far h.rl (fun k hk => hk.2.2.2.2) _⟩
  · rw [List.length_set]; exact blk_far h.blk h3 _
  · have := blk_set h.bp i (.int .i64 x)
    rw [il_set] at this
    exact this
/-- a score is written -/
theorem HM.sets (h : HM w ok g hb gs gp vl l sc pl st) (i : Nat) (x : Nat) : HM (w.setCell ⟨gs, i, none⟩ (.float .f64 x)) ok g hb gs gp vl l (sc.set i x) pl st := by
  obtain ⟨h1, h2, h3, h4, h5, h6⟩ := h.apart
  refine ⟨h.og, h.ob, h.os, h.op, ?_, blk_far h.box h4 _, ?_, blk_far h.bp (Ne.symm h6) _, Kd.R_far h.rl (fun k hk => hk.2.2.2.1) _⟩
  · rw [List.length_set]; exact blk_far h.blk h2 _
  · have := blk_set h.bs i (.float .f64 x)
    rw [fl_set] at this
    exact this
/-- the step is written -/
theorem HM.setst (h : HM w ok g hb gs gp vl l sc pl st) (x : Nat) : HM (w.setCell ⟨g, 5, none⟩ (.float .f64 x)) ok g hb gs gp vl l sc pl x := by
  obtain ⟨h1, h2, h3, h4, h5, h6⟩ := h.apart
  refine ⟨h.og, h.ob, h.os, h.op, ?_, blk_far h.box (Ne.symm h1) _, blk_far h.bs (Ne.symm h2) _, blk_far h.bp (Ne.symm h3) _, Kd.R_far h.rl (fun k hk => hk.2.1) _⟩
  exact blk_set h.blk 5 (.float .f64 x)
/-- an element of the queue is written -/
theorem HM.setl {gl c n : Nat} (h : HM w ok g hb gs gp (.slice (some ⟨gl, 0, none⟩) n c) l sc pl st) (i : Nat) (x : Int) : HM (w.setCell ⟨gl, i, none⟩ (.int .i64 x)) ok g hb gs gp (.slice (some ⟨gl, 0, none⟩) n c) (l.set i x) sc pl st := by
  obtain ⟨h1, h2, h3, h4⟩ := (h.rl.1 gl rfl).2
  have hp := Kd.R_putg h.rl (i : Int) x
  rw [Int.toNat_natCast] at hp
  exact ⟨h.og, h.ob, h.os, h.op, blk_far h.blk (Ne.symm h1) _, blk_far h.box (Ne.symm h2) _, blk_far h.bs (Ne.symm h3) _, blk_far h.bp (Ne.symm h4) _, hp.1⟩
/-- the queue is another row -/
theorem HM.setv {w1 : World} {ok' : Nat → Prop} {v1 : Value} {l' : List Int} (h : HM w ok g hb gs gp vl l sc pl st) (hok : ∀ k, ok k → ok' k) (hv : Kd.R (Kd.int .i64) 3 w1 0 (fun k => ok' k ∧ off g hb gs gp k) v1 l') (hg : w.grownBy w1 vl.ownBlock) :
    HM (w1.setCell ⟨g, 0, none⟩ v1) ok' g hb gs gp v1 l' sc pl st := by
  obtain ⟨h1, h2, h3, h4, h5, h6⟩ := h.apart
  have hne : ∀ k, ¬ off g hb gs gp k → some k ≠ vl.ownBlock := fun k hk e => hk (h.rl.1 k e.symm).2
  have q0 := (hg.block g (blk_lt h.blk) (hne g (fun q => q.1 rfl))).trans h.blk
  have q1 := (hg.block hb (blk_lt h.box) (hne hb (fun q => q.2.1 rfl))).trans h.box
  have q2 := (hg.block gs (blk_lt h.bs) (hne gs (fun q => q.2.2.1 rfl))).trans h.bs
  have q3 := (hg.block gp (blk_lt h.bp) (hne gp (fun q => q.2.2.2 rfl))).trans h.bp
  exact ⟨hok g h.og, hok hb h.ob, hok gs h.os, hok gp h.op, blk_set q0 0 v1, blk_far q1 (Ne.symm h1) _, blk_far q2 (Ne.symm h2) _, blk_far q3 (Ne.symm h3) _, Kd.R_far hv (fun k hk => hk.2.1) _⟩
theorem HM.c (j : Nat) (h : HM w ok g hb gs gp vl l sc pl st) : w.cell? ⟨g, j, none⟩ = #[vl, .func (.func 47) #[.pointer (some ⟨g, 0, none⟩)] #[], .func (.func 57) #[] #[.pointer (some ⟨hb, 0, none⟩)], .slice (some ⟨gs, 0, none⟩) sc.length sc.length, .slice (some ⟨gp, 0, none⟩) pl.length pl.length, .float .f64 st][j]? := blk_cell h.blk j
theorem HM.f (j : Nat) (h : HM w ok g hb gs gp vl l sc pl st) : w.frozen? ⟨g, j, none⟩ = false := blk_frozen h.blk j
theorem HM.s {i : Nat} (h : HM w ok g hb gs gp vl l sc pl st) (hi : i < sc.length) : w.cell? ⟨gs, i, none⟩ = some (.float .f64 (gW sc (i : Int))) ∧ w.frozen? ⟨gs, i, none⟩ = false := ⟨(blk_cell h.bs i).trans (fl_get sc hi), blk_frozen h.bs i⟩
theorem HM.p {i : Nat} (h : HM w ok g hb gs gp vl l sc pl st) (hi : i < pl.length) : w.cell? ⟨gp, i, none⟩ = some (.int .i64 (gI pl i)) ∧ w.frozen? ⟨gp, i, none⟩ = false := ⟨(blk_cell h.bp i).trans (il_get pl hi), blk_frozen h.bp i⟩
/-- the queue's row -/
theorem HM.q (h : HM w ok g hb gs gp vl l sc pl st) (hl : 0 < l.length) : ∃ gl c, vl = .slice (some ⟨gl, 0, none⟩) l.length c ∧ ∀ i, i < l.length → w.cell? ⟨gl, i, none⟩ = some (.int .i64 (gI l i)) ∧ w.frozen? ⟨gl, i, none⟩ = false := by
  have ho := Kd.own_of_R h.rl
  rcases ho.2 with ⟨_, q⟩ | ⟨gl, c, cur, h1, _, h3, h4, _, h6, h7⟩
  · omega
  · refine ⟨gl, c, h1, fun i hi => ⟨?_, blk_frozen h3 i⟩⟩
    have := ho.cells (g := gl) (by rw [h1]; rfl) i (.int .i64 (gI l i)) (by simp [encs, gI_some hi])
    rwa [show ((⟨gl, 0, none⟩ : Addr).add i) = ⟨gl, i, none⟩ by unfold Addr.add; split <;> simp_all] at this
theorem HM.sl (h : HM w ok g hb gs gp vl l sc pl st) : ∃ A c, vl = .slice A l.length c := by
  obtain ⟨A, c, e⟩ := Kd.R_slice h.rl
  exact ⟨A, c, e⟩
end
/-- What a call on the heap does to the rest of memory: what was there and is not ok stays. -/
structure Rest (w w' : World) (ok : Nat → Prop) : Prop where
  os : w'.os = w.os
  tape : w'.tape = w.tape
  output : w'.output = w.output
  size : w.heap.size ≤ w'.heap.size
  block : ∀ k, k < w.heap.size → ¬ ok k → w'.heap[k]? = w.heap[k]?
theorem Rest.refl (w : World) (ok : Nat → Prop) : Rest w w ok := ⟨rfl, rfl, rfl, Nat.le_refl _, fun _ _ _ => rfl⟩
theorem Rest.of_below {w w' : World} (h : Below w.heap.size w w') (ok : Nat → Prop) : Rest w w' ok := ⟨h.os, h.tape, h.output, h.size, fun k hk _ => h.block k hk⟩
theorem Rest.grown {w w1 w2 : World} {ok : Nat → Prop} (h : Rest w w1 ok) {row : Option Nat} (hg : w1.grownBy w2 row) (hr : ∀ k, row = some k → k < w.heap.size → ok k) : Rest w w2 ok :=
  ⟨hg.os.trans h.os, hg.tape.trans h.tape, hg.output.trans h.output, Nat.le_trans h.size hg.size, fun k hk hn => (hg.block k (Nat.lt_of_lt_of_le hk h.size) (fun e => hn (hr k e.symm hk))).trans (h.block k hk hn)⟩
theorem Rest.trans {w w1 w2 : World} {ok ok2 : Nat → Prop} (h : Rest w w1 ok) (h2 : Rest w1 w2 ok2) (hk : ∀ k, k < w.heap.size → ok2 k → ok k) : Rest w w2 ok :=
  ⟨h2.os.trans h.os, h2.tape.trans h.tape, h2.output.trans h.output, Nat.le_trans h.size h2.size, fun k hl hn => (h2.block k (Nat.lt_of_lt_of_le hl h.size) (fun e => hn (hk k hl e))).trans (h.block k hl hn)⟩
theorem Rest.set {w w1 : World} {ok : Nat → Prop} (h : Rest w w1 ok) {p : Addr} (hp : p.block < w.heap.size → ok p.block) (u : Value) : Rest w (w1.setCell p u) ok :=
  ⟨h.os, h.tape, h.output, by simpa [World.setCell] using h.size, fun k hk hn => (Below.heap_setCell w1 p u k (fun e => hn (by rw [e]; exact hp (e ▸ hk)))).trans (h.block k hk hn)⟩
theorem Rest.mono {w w1 : World} {ok ok' : Nat → Prop} (h : Rest w w1 ok) (hk : ∀ k, k < w.heap.size → ok k → ok' k) : Rest w w1 ok' := ⟨h.os, h.tape, h.output, h.size, fun k hl hn => h.block k hl (fun e => hn (hk k hl e))⟩
theorem Rest.drawn {w w1 w2 : World} {ok : Nat → Prop} (h : Rest w w1 ok) (hd : Drawn0 w1 w2) : Rest w w2 ok := h.trans (Rest.of_below hd.below ok) (fun _ _ q => q)
theorem Rest.below {w0 w w' : World} {ok : Nat → Prop} (hb : Below w0.heap.size w0 w) (h : Rest w w' ok) (hn : ∀ k, ok k → w0.heap.size ≤ k) : Below w0.heap.size w0 w' :=
  ⟨h.os.trans hb.os, h.tape.trans hb.tape, h.output.trans hb.output, Nat.le_trans hb.size h.size, fun k hk => (h.block k (Nat.lt_of_lt_of_le hk hb.size) (fun e => by have := hn k e; omega)).trans (hb.block k hk)⟩

end Go.Proofs.Ytocmldppefjbgaa.PHP
