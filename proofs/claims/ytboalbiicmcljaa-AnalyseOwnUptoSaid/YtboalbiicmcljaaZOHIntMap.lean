import Derived.Maps.OwnOps
import Derived.Maps.OwnSet
import Derived.Maps.RangeWalk
import Derived.WalkKit
import Derived.Below
import Derived.OwnWalk
import Derived.Deep.Draws
namespace Go.Proofs.YtboalbiicmcljaaH
open Go.Maps Go.RowKit
abbrev w64 (x : Int) : Prop := (Lit.int .i64 x).wf = true
theorem w64_iff (x : Int) : w64 x ↔ -9223372036854775808 ≤ x ∧ x ≤ 9223372036854775807 := by
  unfold w64
  simp only [Lit.wf, IntKind.min, IntKind.max, IntKind.signed, IntKind.bits]
  simp
def IsMapF (P : Program) (e : TypeId) (w : World) (b : Nat) (s : List Int) (f : Int → Int) : Prop :=
  ∃ D : DataW Unit, w.ownsMap P e (plainElem P e) b s.length D ∧ s.Nodup ∧ (∀ x ∈ s, w64 x ∧ w64 (f x)) ∧ Maps.size D = s.length ∧
    ∀ x, w64 x → (has D (.int .i64 x) = decide (x ∈ s) ∧ D.atKey (.int .i64 x) (.lit (.int .i64 0)) = .lit (.int .i64 (if x ∈ s then f x else 0)))
theorem iskey (x : Int) : WideAt.IsKeyLit (.int .i64 x) := by simp [WideAt.IsKeyLit]
theorem lit_ne {x y : Int} (h : x ≠ y) : (Lit.int .i64 x) ≠ .int .i64 y := by
  intro e; injection e with _ e; exact h e
theorem own_size {P : Program} {e : TypeId} {w : World} {b n : Nat} {D : DataW Unit} (h : w.ownsMap P e (plainElem P e) b n D) : w.ownsMap P e (plainElem P e) b (Maps.size D) D := by
  obtain ⟨es, clock, hb, F, _, rfl⟩ := h
  refine ⟨es, clock, hb, F, ?_, rfl⟩
  simp [Maps.size, length_sorted]
theorem isMapF_made (P : Program) (e : TypeId) (w : World) (f : Int → Int) : IsMapF P e (w.alloc (.map #[] 0)) w.heap.size [] f :=
  ⟨_, World.ownsMap_made w P e (plainElem P e), List.nodup_nil, by simp, by simp [Maps.size], fun x _ => by simp [has, DataW.atKey]⟩
theorem IsMapF.step {P : Program} {e : TypeId} {w w1 : World} {b : Nat} {s : List Int} {f : Int → Int} (h : IsMapF P e w b s f) (hb : w1.heap[b]? = w.heap[b]?) : IsMapF P e w1 b s f := by
  obtain ⟨D, ⟨es, clock, h1, h2⟩, h3⟩ := h
  exact ⟨D, ⟨es, clock, hb.trans h1, h2⟩, h3⟩
theorem IsMapF.lt {P : Program} {e : TypeId} {w : World} {b : Nat} {s : List Int} {f : Int → Int} (h : IsMapF P e w b s f) : b < w.heap.size := by
  obtain ⟨D, h1, _⟩ := h; exact h1.lt
theorem IsMapF.nodup {P : Program} {e : TypeId} {w : World} {b : Nat} {s : List Int} {f : Int → Int} (h : IsMapF P e w b s f) : s.Nodup := by
  obtain ⟨D, _, h2, _⟩ := h; exact h2
theorem IsMapF.wf {P : Program} {e : TypeId} {w : World} {b : Nat} {s : List Int} {f : Int → Int} (h : IsMapF P e w b s f) : ∀ x ∈ s, w64 x ∧ w64 (f x) := by
  obtain ⟨D, _, _, h3, _⟩ := h; exact h3
theorem IsMapF.obj {P : Program} {e : TypeId} {w : World} {b : Nat} {s : List Int} {f : Int → Int} (h : IsMapF P e w b s f) : ∃ es clock, w.heap[b]? = some (.map es clock) := by
  obtain ⟨D, ⟨es, clock, h1, _⟩, _⟩ := h; exact ⟨es, clock, h1⟩
theorem IsMapF.ne_cells {P : Program} {e : TypeId} {w : World} {b : Nat} {s : List Int} {f : Int → Int} (h : IsMapF P e w b s f) {g : Nat} {cs : Array Value} {t : TypeId} {fr : Nat × Nat} (hg : w.heap[g]? = some (.cells cs t fr)) : b ≠ g := by
  obtain ⟨es, clock, h1⟩ := h.obj
  rintro rfl
  rw [h1] at hg
  cases hg
theorem IsMapF.congr {P : Program} {e : TypeId} {w : World} {b : Nat} {s s' : List Int} {f f' : Int → Int} (h : IsMapF P e w b s f) (hp : s.Perm s') (hf : ∀ x ∈ s, f x = f' x) : IsMapF P e w b s' f' := by
  obtain ⟨D, h1, h2, h3, h4, h5⟩ := h
  refine ⟨D, hp.length_eq ▸ h1, hp.nodup_iff.1 h2, fun x hx => ?_, by rw [h4, hp.length_eq], fun x hx => ?_⟩
  · have hx' := hp.mem_iff.2 hx
    rw [← hf x hx']
    exact h3 x hx'
  · obtain ⟨a1, a2⟩ := h5 x hx
    refine ⟨by rw [a1]; simp [hp.mem_iff], ?_⟩
    rw [a2]
    by_cases hm : x ∈ s
    · rw [if_pos hm, if_pos (hp.mem_iff.1 hm), hf x hm]
    · rw [if_neg hm, if_neg (fun q => hm (hp.mem_iff.2 q))]
def insK (s : List Int) (x : Int) : List Int := if x ∈ s then s else s ++ [x]
def updF (f : Int → Int) (x v : Int) : Int → Int := fun y => if y = x then v else f y
theorem mem_insK {s : List Int} {x y : Int} : y ∈ insK s x ↔ y ∈ s ∨ y = x := by
  unfold insK
  split
  · rename_i h
    exact ⟨.inl, fun q => q.elim id (fun q => q ▸ h)⟩
  · simp
theorem nodup_insK {s : List Int} (h : s.Nodup) (x : Int) : (insK s x).Nodup := by
  unfold insK
  split
  · exact h
  · rename_i hn
    exact List.nodup_append.2 ⟨h, by simp, fun a ha b hb => by simp at hb; subst hb; exact fun q => hn (q ▸ ha)⟩
theorem length_insK (s : List Int) (x : Int) : (insK s x).length = if x ∈ s then s.length else s.length + 1 := by
  unfold insK
  split <;> simp_all
theorem IsMapF.put_own {P : Program} {e : TypeId} {w w' : World} {b n : Nat} {s : List Int} {f : Int → Int} {D : DataW Unit} (K : Keyed P e) {x v : Int} (hx : w64 x) (hv : w64 v)
    (h0 : w.ownsMap P e (plainElem P e) b s.length D) (h2 : s.Nodup) (h3 : ∀ x ∈ s, w64 x ∧ w64 (f x)) (h4 : Maps.size D = s.length)
    (h5 : ∀ x, w64 x → (has D (.int .i64 x) = decide (x ∈ s) ∧ D.atKey (.int .i64 x) (.lit (.int .i64 0)) = .lit (.int .i64 (if x ∈ s then f x else 0))))
    (h1 : w'.ownsMap P e (plainElem P e) b n (D.put (.int .i64 x) (.lit (.int .i64 v)))) : IsMapF P e w' b (insK s x) (updF f x v) := by
  have hT := h0.tidy K
  have hs : Maps.size (D.put (.int .i64 x) (.lit (.int .i64 v))) = (insK s x).length := by
    rw [size_put hT, (h5 x hx).1, length_insK, h4]
    by_cases hm : x ∈ s <;> simp [hm]
  refine ⟨_, hs ▸ own_size h1, nodup_insK h2 x, fun y hy => ?_, hs, fun y hy => ?_⟩
  · unfold updF
    by_cases he : y = x
    · rw [if_pos he]; exact ⟨he ▸ hx, hv⟩
    · rw [if_neg he]
      exact h3 y ((mem_insK.1 hy).resolve_right he)
  · by_cases he : y = x
    · subst he
      rw [has_put_same hT.isMap (iskey _), atKey_put_same hT.isMap (iskey _)]
      have hm : y ∈ insK s y := mem_insK.2 (.inr rfl)
      simp [hm, updF]
    · rw [has_put_other (lit_ne he), atKey_put_other (lit_ne he), (h5 y hy).1, (h5 y hy).2]
      have hm : (y ∈ insK s x) ↔ y ∈ s := ⟨fun q => (mem_insK.1 q).resolve_right he, fun q => mem_insK.2 (.inl q)⟩
      simp [hm, updF, he]
def delK (s : List Int) (x : Int) : List Int := s.filter (fun y => y ≠ x)
theorem mem_delK {s : List Int} {x y : Int} : y ∈ delK s x ↔ y ∈ s ∧ y ≠ x := by simp [delK]
theorem length_delK {s : List Int} (h : s.Nodup) (x : Int) : (delK s x).length + (if x ∈ s then 1 else 0) = s.length := by
  unfold delK
  induction s with
  | nil => simp
  | cons y r ih =>
    have hr := ih (List.nodup_cons.1 h).2
    have hy := (List.nodup_cons.1 h).1
    by_cases he : y = x
    · subst he
      rw [if_neg hy] at hr
      simp at hr ⊢
      exact hr
    · have he' : ¬ x = y := fun q => he q.symm
      simp only [List.filter_cons]
      simp only [ne_eq, he, not_false_eq_true, decide_true, if_true, List.length_cons, List.mem_cons, he', false_or] at hr ⊢
      omega
theorem IsMapF.del_own {P : Program} {e : TypeId} {w w' : World} {b n : Nat} {s : List Int} {f : Int → Int} {D : DataW Unit} (K : Keyed P e) {x : Int} (hx : w64 x)
    (h0 : w.ownsMap P e (plainElem P e) b s.length D) (h2 : s.Nodup) (h3 : ∀ x ∈ s, w64 x ∧ w64 (f x)) (h4 : Maps.size D = s.length)
    (h5 : ∀ x, w64 x → (has D (.int .i64 x) = decide (x ∈ s) ∧ D.atKey (.int .i64 x) (.lit (.int .i64 0)) = .lit (.int .i64 (if x ∈ s then f x else 0))))
    (h1 : w'.ownsMap P e (plainElem P e) b n (D.del (.int .i64 x))) : IsMapF P e w' b (delK s x) f := by
  have hT := h0.tidy K
  have hs : Maps.size (D.del (.int .i64 x)) = (delK s x).length := by
    have a1 := size_del (k := .int .i64 x) hT
    have a2 := length_delK h2 x
    rw [(h5 x hx).1, h4] at a1
    by_cases hm : x ∈ s <;> simp [hm] at a1 a2 <;> omega
  refine ⟨_, hs ▸ own_size h1, h2.filter _, fun y hy => h3 y (mem_delK.1 hy).1, hs, fun y hy => ?_⟩
  by_cases he : y = x
  · subst he
    rw [has_del_same, atKey_del_same]
    simp [delK]
  · rw [has_del_other (lit_ne he), atKey_del_other (lit_ne he), (h5 y hy).1, (h5 y hy).2]
    have hm : (y ∈ delK s x) ↔ y ∈ s := ⟨fun q => (mem_delK.1 q).1, fun q => mem_delK.2 ⟨q, he⟩⟩
    simp [hm]
section
variable {P : Program} {t e : TypeId}
theorem IsMapF.run_look {w : World} {b : Nat} {s : List Int} {f : Int → Int} (h : IsMapF P e w b s f) (ht : P.underlying t = some (.map e e)) (he : P.underlying e = some (.int .i64)) (hz : ∀ w : World, (zeroValue e).run P w = .ok (.int .i64 0) w) {x : Int} (hx : w64 x) :
    (Instr.lookup t (.map (some b)) (.int .i64 x) false).run P w = .ok (.int .i64 (if x ∈ s then f x else 0)) w := by
  obtain ⟨D, h1, _, _, _, h5⟩ := h
  obtain ⟨c, hrun, hat, _⟩ := h1.lookup_int (int_keyed he) ht he (hz w) (keyOf_int_mk he hx)
  rw [(h5 x hx).2] at hat
  injection hat with hat
  injection hat with _ hat
  rw [hrun, hat]
theorem IsMapF.run_look_ok {w : World} {b : Nat} {s : List Int} {f : Int → Int} (h : IsMapF P e w b s f) (ht : P.underlying t = some (.map e e)) (he : P.underlying e = some (.int .i64)) (hz : ∀ w : World, (zeroValue e).run P w = .ok (.int .i64 0) w) {x : Int} (hx : w64 x) :
    (Instr.lookup t (.map (some b)) (.int .i64 x) true).run P w = .ok (.tuple #[.int .i64 (if x ∈ s then f x else 0), .bool (decide (x ∈ s))]) w := by
  obtain ⟨D, h1, _, _, _, h5⟩ := h
  obtain ⟨v, ps, hrun, hv⟩ := h1.look_ok (int_keyed he) ht (hz w) (plainElem_int he (by decide)) (keyOf_int_mk he hx)
  obtain ⟨c, rfl, hc, _⟩ := plainElem_int_inv he hv
  have hat := congrArg Prod.fst hc
  simp only at hat
  rw [(h5 x hx).2] at hat
  injection hat with hat
  injection hat with _ hat
  rw [hrun, hat, (h5 x hx).1]
variable (w : World) {ops : Array Oper} {rest : List Oper} {o : Oper} {a : Act} {Q : Exit → Act → World → Prop}
theorem wpList_put_F (hg : o.guard = none) (m x y : Operand) (t : TypeId) (hop : o.op = Op.mapUpdate t m x y)
    (e : TypeId) (ht : P.underlying t = some (.map e e)) (he : P.underlying e = some (.int .i64)) (b : Nat) (s : List Int) (f : Int → Int)
    (hm : a.eval m = .map (some b)) (hs : IsMapF P e w b s f) (hl : s.length < maxLen) (z v : Int) (hx : a.eval x = .int .i64 z) (hy : a.eval y = .int .i64 v) (hwz : w64 z) (hwv : w64 v)
    (hK : ∀ w', IsMapF P e w' b (insK s z) (updF f z v) → w.grownBy w' (some b) → wpList P ops Q rest (a.put o.dst undef) w') : wpList P ops Q (o :: rest) a w := by
  obtain ⟨D, h1, h2, h3, h4, h5⟩ := hs
  refine wpList_mapUpdate_own w hg m x y t hop e e (int_keyed he) ht _ b s.length D hm h1 hl _ _ _ hx hy (keyOf_int_mk he hwz) (.lit (.int .i64 v)) [] (plainElem_int he hwv) ?_
  intro w' h6 h7
  exact hK w' (IsMapF.put_own (int_keyed he) hwz hwv h1 h2 h3 h4 h5 h6) h7
theorem wpList_del_F (hg : o.guard = none) (m x : Operand) (t e : TypeId) (hop : o.op = Op.call { callee := Callee.builtin Builtin.delete, args := #[m, x], argTypes := #[t, e] })
    (ht : P.underlying t = some (.map e e)) (he : P.underlying e = some (.int .i64)) (b : Nat) (s : List Int) (f : Int → Int)
    (hm : a.eval m = .map (some b)) (hs : IsMapF P e w b s f) (z : Int) (hx : a.eval x = .int .i64 z) (hwz : w64 z)
    (hK : ∀ w', IsMapF P e w' b (delK s z) f → w.grownBy w' (some b) → wpList P ops Q rest (a.put o.dst (.tuple #[])) w') : wpList P ops Q (o :: rest) a w := by
  obtain ⟨D, h1, h2, h3, h4, h5⟩ := hs
  refine wpList_delete_own w hg m x t e hop e (int_keyed he) ht _ b s.length D hm h1 _ _ hx (keyOf_int_mk he hwz) ?_
  intro w' h6 h7
  exact hK w' (IsMapF.del_own (int_keyed he) hwz h1 h2 h3 h4 h5 h6) h7.grown
def RangesF (P : Program) (e : TypeId) (w : World) (b r : Nat) (s : List Int) (f : Int → Int) (done : List Int) : Prop :=
  IsMapF P e w b s f ∧ done.Nodup ∧ (∀ x ∈ done, x ∈ s) ∧ ∃ (D : DataW Unit) (n : Nat) (left : Lit → Bool) (cnt : Nat), w.ranges P e (plainElem P e) b r n D left cnt ∧
    (∀ x, w64 x → has D (.int .i64 x) = decide (x ∈ s)) ∧ ∀ x, w64 x → left (.int .i64 x) = decide (x ∈ s ∧ x ∉ done)
theorem RangesF.map {P : Program} {e : TypeId} {w : World} {b r : Nat} {s : List Int} {f : Int → Int} {done : List Int} (h : RangesF P e w b r s f done) : IsMapF P e w b s f := h.1
theorem RangesF.ne {P : Program} {e : TypeId} {w : World} {b r : Nat} {s : List Int} {f : Int → Int} {done : List Int} (h : RangesF P e w b r s f done) : r ≠ b := by
  obtain ⟨_, _, _, _, _, _, _, h, _⟩ := h; exact h.ne
theorem RangesF.lt {P : Program} {e : TypeId} {w : World} {b r : Nat} {s : List Int} {f : Int → Int} {done : List Int} (h : RangesF P e w b r s f done) : r < w.heap.size := by
  obtain ⟨_, _, _, _, _, _, _, h, _⟩ := h; exact h.lt
theorem RangesF.step {P : Program} {e : TypeId} {w w1 : World} {b r : Nat} {s : List Int} {f : Int → Int} {done : List Int} (h : RangesF P e w b r s f done) (hb : w1.heap[b]? = w.heap[b]?) (hr : w1.heap[r]? = w.heap[r]?) : RangesF P e w1 b r s f done := by
  obtain ⟨h1, h2, h3, D, n, left, cnt, ⟨es, clock, since, seen, c0, q1, q2, q3, q4, q5, q6⟩, h5⟩ := h
  exact ⟨h1.step hb, h2, h3, D, n, left, cnt, ⟨es, clock, since, seen, c0, hb.trans q1, q2, q3, q4, hr.trans q5, q6⟩, h5⟩
theorem len_le_sub : ∀ {l s : List Int}, l.Nodup → (∀ x ∈ l, x ∈ s) → l.length ≤ s.length
  | [], _, _, _ => by simp
  | x :: r, s, h, hs => by
    have hx := hs x List.mem_cons_self
    have h1 : r.length ≤ (s.erase x).length := len_le_sub (List.nodup_cons.1 h).2 (fun y hy => (List.mem_erase_of_ne (fun (q : y = x) => (List.nodup_cons.1 h).1 (by rw [← q]; exact hy))).2 (hs y (List.mem_cons_of_mem _ hy)))
    rw [List.length_erase_of_mem hx] at h1
    have := List.length_pos_of_mem hx
    rw [List.length_cons]
    omega
theorem RangesF.le {P : Program} {e : TypeId} {w : World} {b r : Nat} {s : List Int} {f : Int → Int} {done : List Int} (h : RangesF P e w b r s f done) : done.length ≤ s.length := by
  obtain ⟨_, h2, h3, _⟩ := h
  exact len_le_sub h2 h3
theorem wpList_range_F (hg : o.guard = none) (m : Operand) (t : TypeId) (hop : o.op = Op.range t m) (e : TypeId) (ht : P.underlying t = some (.map e e)) (he : P.underlying e = some (.int .i64)) (b : Nat) (s : List Int) (f : Int → Int)
    (hm : a.eval m = .map (some b)) (hs : IsMapF P e w b s f)
    (hK : ∀ w', RangesF P e w' b w.heap.size s f [] → w.grownBy w' none → w'.heap.size = w.heap.size + 1 → wpList P ops Q rest (a.put o.dst (.pointer (some ⟨w.heap.size, 0, none⟩))) w') : wpList P ops Q (o :: rest) a w := by
  have hs0 := hs
  obtain ⟨D, h1, h2, h3, h4, h5⟩ := hs
  refine wpList_range_own w hg m t hop e e (int_keyed he) ht _ b s.length D hm h1 ?_
  intro w' h6 h7 h8
  refine hK w' ⟨hs0.step (h7.block b h1.lt (by simp)), List.nodup_nil, by simp, D, _, _, _, h6, fun x hx => (h5 x hx).1, fun x hx => ?_⟩ h7 h8
  rw [(h5 x hx).1]
  simp
theorem wpList_next_F (hg : o.guard = none) (it : Operand) (hop : o.op = Op.next it false) (e : TypeId) (he : P.underlying e = some (.int .i64))
    (b r : Nat) (s : List Int) (f : Int → Int) (done : List Int) (hit : a.eval it = .pointer (some ⟨r, 0, none⟩)) (h : RangesF P e w b r s f done)
    (hDone : done.Perm s → wpList P ops Q rest (a.put o.dst (.tuple #[.bool false])) w)
    (hMore : ∀ (x : Int) (w' : World), w64 x → x ∈ s → x ∉ done → RangesF P e w' b r s f (done ++ [x]) → w.grownBy w' (some r) → w'.heap.size = w.heap.size → (Instr.entry (.pointer (some ⟨r, 0, none⟩))).run P w' = .ok (.tuple #[.int .i64 x, .int .i64 (f x)]) w' → wpList P ops Q rest (a.put o.dst (.tuple #[.bool true, .int .i64 x, .int .i64 (f x)])) w') :
    wpList P ops Q (o :: rest) a w := by
  obtain ⟨h1, h2, h3, D, n, left, cnt, h4, h5, h6⟩ := h
  have hb := h4.owns.lt
  have hne := h4.ne
  refine wpList_next_ranges_ii w hg it hop e e .i64 .i64 (int_keyed he) he he b r n D left cnt hit h4 (fun _ hl => hDone ?_) ?_
  · refine (List.perm_ext_iff_of_nodup h2 h1.nodup).2 (fun x => ⟨h3 x, fun hx => ?_⟩)
    have hw := (h1.wf x hx).1
    have := h6 x hw
    rw [hl] at this
    by_cases hd : x ∈ done
    · exact hd
    · simp [hx, hd] at this
  · intro x c w' cnt' hwx hwc hlx hat hrg hlt hgr hsz hen
    have hlx' := h6 x hwx
    rw [hlx] at hlx'
    have hx : x ∈ s ∧ x ∉ done := by simpa using hlx'.symm
    have hbk : w'.heap[b]? = w.heap[b]? := hgr.block b hb (by intro q; injection q with q; exact hne q.symm)
    have hc : c = f x := by
      have h7 := hat (.lit (.int .i64 0))
      obtain ⟨D', g1, _, _, _, g5⟩ := h1
      have e1 : D = D' := by
        obtain ⟨es, clock, a1, _, _, a2⟩ := h4.owns
        obtain ⟨es', clock', b1, _, _, b2⟩ := g1
        rw [a1] at b1
        injection b1 with b1
        injection b1 with b1 _
        rw [a2, b2, b1]
      rw [e1, (g5 x hwx).2, if_pos hx.1] at h7
      injection h7 with h7
      injection h7 with _ h7
      exact h7.symm
    subst hc
    refine hMore x w' hwx hx.1 hx.2 ⟨h1.step hbk, ?_, ?_, D, n, _, cnt', hrg, h5, fun y hy => ?_⟩ hgr hsz hen
    · exact List.nodup_append.2 ⟨h2, by simp, fun a ha b hb => by simp at hb; subst hb; exact fun q => hx.2 (q ▸ ha)⟩
    · intro y hy
      rcases List.mem_append.1 hy with hy | hy
      · exact h3 y hy
      · simp at hy; exact hy ▸ hx.1
    · rw [h6 y hy]
      by_cases he1 : y = x
      · subst he1
        simp [Lit.sameKey]
      · have : (Lit.int IntKind.i64 y).sameKey (.int .i64 x) = false := sameKey_ne (lit_ne he1)
        rw [this]
        simp [he1]
end
end Go.Proofs.YtboalbiicmcljaaH
