import Derived.Test.YtboalbiicmcljaaZOAn6
import Derived.Deep.RegionHeld3
import Derived.Deep.RegionWith
import Derived.Deep.RegionLaw
import Derived.WalkSpells
import Derived.Deep.DeepCutAuto
namespace Go.Proofs.Ytboalbiicmcljaa.PAN
open Go.RowKit Go.Proofs.YtboalbiicmcljaaW.PrintWords Go.Proofs.YtboalbiicmcljaaW.PrintLast Go.Proofs.YtboalbiicmcljaaW.PrintMore Go.Proofs.YtboalbiicmcljaaH
set_option linter.unusedVariables false
set_option linter.unusedSimpArgs false
theorem R_made_nil {α : Type} (d : Kd α) (e : Nat) (w : World) : d.R e (w.alloc (.cells #[] e)) w.heap.size (fun _ => True) (.slice (some ⟨w.heap.size, 0, none⟩) 0 0) [] := by
  refine ⟨fun _ _ => trivial, [], ?_, by simp, fun j p hj => by simp at hj⟩
  have h := World.ownsRow_lit (base := w.heap.size) (e := e) (size := d.sz) w #[] 0 (Nat.le_refl _) (by unfold maxLen; omega) (by simp)
  simpa using h
set_option maxHeartbeats 2000000 in
theorem clone_ints (A0 : Option Addr) (c0 : Nat) (l0 : List Int) (w : World) (hr0 : Kd.C (Kd.int .i64) w A0 l0.length l0) (hm : l0.length ≤ 1099511627776) :
    Calls Try.prog 71 #[.slice A0 l0.length c0] w fun e w' => ∃ v0_ : Value, e = .returned (v0_) ∧ Kd.R (Kd.int .i64) 3 w' w.heap.size (fun _ => True) v0_ l0 ∧ Below w.heap.size w w' := by
  have HR := Aside0.mk hr0
  have he := fun (W : World) (c : Nat) => Lib.run_eql_slice_nil (P := Try.prog) W 27 3 A0 l0.length c 0 0 Try.underlying27
  cases A0 with
  | none =>
    have hl : l0 = [] := by
      rcases l0 with _ | ⟨x, xs⟩
      · rfl
      · obtain ⟨ad, h, _⟩ := hr0.2.2 (by simp)
        cases h
    subst hl
    clear hr0 hm he
    have he0 : ∀ W : World, (binOp .eql 27 (.slice none 0 c0) (.slice none 0 0)).run Try.prog W = .ok (.bool true) W := fun W => Lib.run_eql_slice_nil W _ _ none 0 c0 0 0 Try.underlying27
    go_enter Try.func71, Try.ntmps71
    go_wp2
    go_ret
    exact ⟨_, rfl, Kd.R_nil _ _ _ _ _, Below.refl _ _⟩
  | some ad =>
    clear hr0
    have HN := Aside0.mk (R_made_nil (Kd.int .i64) 3 w)
    go_enter Try.func71, Try.ntmps71
    go_wp2_with (first | (at_builtin; refine Kd.R_append_rows (Kd.int .i64) (Rr := (Kd.int .i64).K w) (w0 := w) w.heap.size rfl (.tmp 5) (.tmp 6) 27 3 (.int .i64 0) 8 rfl Try.underlying27 info_int rfl (by decide) (by omega) (.slice (some ⟨w.heap.size, 0, none⟩) 0 0) ([] : List Int) l0 (some ad) l0.length c0 (fun _ => True) (fun _ => False) rfl rfl HN.out ?aR (fun _ _ h => h) (fun _ h => h.elim) (fun _ _ => trivial) (below_alloc (Below.refl _ _) _) (by simp) (by simp; omega) ?_; (case aR => exact Kd.C_alloc HR.out _); intro v1 w1 ho hb hg hat; obtain ⟨A1, cc1, rfl⟩ := Kd.R_slice ho; have HO := Aside0.mk ho; have HB := Aside0.mk hb; clear ho hb hg hat))
    go_ret
    exact ⟨_, rfl, by simpa using HO.out, HB.out⟩
structure TI (w2 : World) (first : Int) (ob og : Option Nat) (ov : Option (Value × List Int)) (W : World) : Prop where
  b : Below w2.heap.size w2 W
  r1 : ∀ b, ob = some b → w2.heap.size ≤ b ∧ W.heap[b]? = some (.cells #[.int .i64 first] 3 (0, 0))
  r7 : ∀ g, og = some g → w2.heap.size ≤ g ∧ W.heap[g]? = some (.cells #[.slice none 0 0, .int .i64 0, .slice none 0 0] 30 (0, 0))
  rv : ∀ v l, ov = some (v, l) → Kd.R (Kd.int .i64) 3 W w2.heap.size (fun _ => True) v l
  ap : ∀ b v l, ob = some b → ov = some (v, l) → some b ≠ v.ownBlock
theorem old_alloc (W : World) (o : Obj) {k : Nat} (h : k < W.heap.size) : (W.alloc o).heap[k]? = W.heap[k]? := (below_alloc (Below.refl W.heap.size W) o).block k h
theorem TI.mk1 {w2 W : World} {first : Int} {og : Option Nat} {ov : Option (Value × List Int)} (h : TI w2 first none og ov W) : TI w2 first (some W.heap.size) og ov (W.alloc (.cells #[.int .i64 first] 3)) :=
  ⟨below_alloc h.b _, fun b e => by injection e with e; subst e; exact ⟨h.b.size, heap_alloc_new _ _⟩, fun g e => ⟨(h.r7 g e).1, (old_alloc W _ (blk_lt (h.r7 g e).2)).trans (h.r7 g e).2⟩,
    fun v l e => Kd.R_alloc (h.rv v l e) _, fun b v l e1 e2 q => by injection e1 with e1; subst e1; exact Nat.lt_irrefl _ (Kd.R_lt (h.rv v l e2) _ q.symm)⟩
theorem TI.mk7 {w2 W : World} {first : Int} {ob : Option Nat} {ov : Option (Value × List Int)} (h : TI w2 first ob none ov W) : TI w2 first ob (some W.heap.size) ov (W.alloc (.cells #[.slice none 0 0, .int .i64 0, .slice none 0 0] 30)) :=
  ⟨below_alloc h.b _, fun b e => ⟨(h.r1 b e).1, (old_alloc W _ (blk_lt (h.r1 b e).2)).trans (h.r1 b e).2⟩, fun g e => by injection e with e; subst e; exact ⟨h.b.size, heap_alloc_new _ _⟩,
    fun v l e => Kd.R_alloc (h.rv v l e) _, h.ap⟩
theorem TI.mk3 {w2 W w3 : World} {first : Int} {ob og : Option Nat} {v : Value} {l : List Int} (h : TI w2 first ob og none W) (hr : Kd.R (Kd.int .i64) 3 w3 W.heap.size (fun _ => True) v l) (hb : Below W.heap.size W w3) : TI w2 first ob og (some (v, l)) w3 :=
  ⟨below_step h.b hb, fun b e => ⟨(h.r1 b e).1, (hb.block b (blk_lt (h.r1 b e).2)).trans (h.r1 b e).2⟩, fun g e => ⟨(h.r7 g e).1, (hb.block g (blk_lt (h.r7 g e).2)).trans (h.r7 g e).2⟩,
    fun v' l' e => by injection e with e; injection e with e1 e2; subst e1 e2; exact Kd.R_lower hr h.b.size, fun b v' l' e1 e2 q => by injection e2 with e2; injection e2 with e2 e3; subst e2 e3; have h1 := Kd.R_base hr b q.symm; have h2 := blk_lt (h.r1 b e1).2; omega⟩
theorem TI.mk8 {w2 W w3 : World} {first : Int} {ob og : Option Nat} {v v1 : Value} {l l1 : List Int} (h : TI w2 first ob og (some (v, l)) W) (hr : Kd.R (Kd.int .i64) 3 w3 w2.heap.size (fun _ => True) v1 l1) (hg : W.grownBy w3 v.ownBlock) (hat : v1.ownBlock = v.ownBlock ∨ ∃ b, v1.ownBlock = some b ∧ W.heap.size ≤ b) : TI w2 first ob og (some (v1, l1)) w3 :=
  ⟨pw_below_grown h.b _ h.b.size hg (fun k e => Kd.R_base (h.rv v l rfl) k e), fun b e => ⟨(h.r1 b e).1, (hg.block b (blk_lt (h.r1 b e).2) (h.ap b v l e rfl)).trans (h.r1 b e).2⟩,
    fun g e => ⟨(h.r7 g e).1, (hg.block g (blk_lt (h.r7 g e).2) (Kd.R_ne (h.rv v l rfl) (h.r7 g e).2 (by decide))).trans (h.r7 g e).2⟩,
    fun v' l' e => by injection e with e; injection e with e1 e2; subst e1 e2; exact hr, fun b v' l' e1 e2 q => by
      injection e2 with e2
      injection e2 with e2 e3
      subst e2 e3
      rcases hat with ha | ⟨k, ha, hk⟩
      · exact h.ap b v l e1 rfl (q.trans ha)
      · rw [ha] at q
        injection q with q
        have := blk_lt (h.r1 b e1).2
        omega⟩
theorem R_one {W : World} {b base : Nat} {x : Int} (hb : W.heap[b]? = some (.cells #[.int .i64 x] 3 (0, 0))) (hle : base ≤ b) (ok : Nat → Prop) (hok : ok b) : Kd.R (Kd.int .i64) 3 W base ok (.slice (some ⟨b, 0, none⟩) 1 1) [x] :=
  Kd.R_of_own ⟨by simp [encs], .inr ⟨b, 1, _, rfl, hle, hb, by simp, by unfold maxLen; omega, by simp, by simp [encs]⟩⟩ (fun k hk => by simp [Value.ownBlock] at hk; exact hk ▸ hok)
section
variable {P : Program} {ops : Array Oper} {o : Oper} {a : Act} {Q : Exit → Act → World → Prop} {Kc : Act → World → Prop} {α : Type}
theorem R_append_rows_law (d : Kd α) {Rr : α → List Value → Prop} {E : Prop} {w0 W : World} (base : Nat) (hgd : o.guard = none) (s x : Operand) (t e : TypeId) (z : Value) (bytes : Nat)
    (ho : o.op = .call { callee := .builtin .append, args := #[s, x], argTypes := #[t, t] })
    (ht : P.underlying t = some (.slice e)) (hinfo : (P.info? e).map (fun i => (i.zero, i.size, i.bytes)) = some (some z, d.sz, bytes)) (hz : z.cells.size = d.sz) (hs0 : 0 < d.sz) (hb0 : 0 < bytes)
    (v : Value) (xs ys : List α) (A : Option Addr) (m c : Nat) (ok okp : Nat → Prop) (hs : a.eval s = v) (hx : a.eval x = .slice A m c)
    (HO : d.R e W base ok v xs) (HR : ReadsRow Rr d.sz W A m ys) (hKM : ∀ x cs, Rr x cs → d.M W base okp x cs) (hokp : ∀ k, okp k → ok k ∧ some k ≠ v.ownBlock) (hfresh : ∀ k, W.heap.size ≤ k → ok k)
    (HB : Below base w0 W) (hbase : base ≤ W.heap.size) (hl : (xs.length + m) * bytes ≤ 140737488355328)
    (h : ∀ v1 w1, d.R e w1 base ok v1 (xs ++ ys) → Below base w0 w1 → W.grownBy w1 v.ownBlock → (v1.ownBlock = v.ownBlock ∨ ∃ b, v1.ownBlock = some b ∧ W.heap.size ≤ b) → Kc (a.put o.dst v1) w1) :
    if Region.wanted o (yielded ops a.tmps) = true then Oper.wp P o a W Kc Q else E := by
  have hw : Region.wanted o (yielded ops a.tmps) = true := by simp [Region.wanted, hgd]
  have h5 := Kd.R_append_rows_step (ops := ops) (Q := Q) (Kc := Kc) d base hw s x t e z bytes ho ht hinfo hz hs0 hb0 v xs ys A m c ok okp hs hx HO HR hKM hokp hfresh HB hbase hl h
  rw [if_pos hw] at h5 ⊢
  exact h5
end
section
variable {P : Program} {md : Region.Mode}
theorem wp_swap {o : Oper} {a : Act} {w : World} {K K' : Act → World → Prop} {Q Q' : Exit → Act → World → Prop} (h : ∀ a w, K a w → K' a w) (hp : ∀ c a w, Q' (.panic c) a w → Q (.panic c) a w) (hl : LetsOut Q' → LetsOut Q)
    (hh : o.wp P a w K Q') : o.wp P a w K' Q := by
  unfold Oper.wp at *
  generalize (execOp a.eval o).run P w = r at *
  cases r with
  | ok n w' =>
    cases n <;> simp only [Oper.upon] at hh ⊢ <;>
      first
        | exact h _ _ hh
        | exact Calls.mono hh (fun e w'' he => by cases e <;> first | exact h _ _ he | exact hp _ _ _ he | exact hl he)
        | exact Rows.mono hh (fun _ _ he => h _ _ he)
  | halt x w' => cases x <;> simp only [Oper.upon] at hh ⊢ <;> first | exact hp _ _ _ hh | exact hh
def PostOf (P : Program) (o : Oper) (Q : Exit → Act → World → Prop) : Exit → Act → World → Prop
  | .normal, a, w => o.wp P a w (fun a w => Q .normal a w) Q
  | e, a, w => Q e a w
theorem wpAny_swap {ops ops' : Array Oper} {n : Nat} {o o' : Oper} {Q : Exit → Act → World → Prop} (hr : ∀ listed, Region.ready md ops' listed = Region.ready md ops listed) (hs : ∀ i, i ≠ n → ops'[i]? = ops[i]?) (hy : ∀ t, yielded ops' t = yielded ops t) (ho : ops[n]? = some o) (ho' : ops'[n]? = some o')
    (hw : ∀ t, Region.wanted o (yielded ops t) = true) (hno : ∀ a w K Q, o'.wp P a w K Q → K a w) (hna : ∀ a w, ¬ o'.asks P a w) (hw' : ∀ t, Region.wanted o' (yielded ops' t) = true)
    (hlast : ∀ listed : Array Bool, listed.size = ops.size → n ∈ Region.ready md ops listed → ∀ l', l' = listed.setIfInBounds n true → Region.ready md ops l' = []) (hlive : ∀ listed : Array Bool, listed.size = ops.size → listed.getD n true = false → Region.ready md ops listed ≠ []) (hself : ∀ listed : Array Bool, ∀ i, i ≠ n → (listed.setIfInBounds i true).getD n true = listed.getD n true) :
    ∀ (fuel : Nat) (listed : Array Bool) (a : Act) (w : World), listed.size = ops.size → listed.getD n true = false → wpAny P md ops' (PostOf P o Q) fuel listed a w → wpAny P md ops Q fuel listed a w := by
  intro fuel
  induction fuel with
  | zero =>
    intro listed a w hz hn h
    exact absurd ((hr listed) ▸ h.1) (hlive listed hz hn)
  | succ fuel ih =>
    intro listed a w hz hn h
    refine ⟨fun e => absurd e (hlive listed hz hn), fun i hi => ?_⟩
    have h2 := h.2 i ((hr listed).symm ▸ hi)
    by_cases hin : i = n
    · subst hin
      have hemp := hlast listed hz hi _ rfl
      unfold wpOp at h2 ⊢
      rw [ho'] at h2
      rw [ho]
      simp only [hw', if_true] at h2
      simp only [hw, if_true]
      rcases h2 with h2 | h2
      · have h3 := hno _ _ _ _ h2
        have h4 : PostOf P o Q .normal a w := by
          cases fuel with
          | zero => exact h3.2
          | succ f => exact h3.1 ((hr _).trans hemp)
        refine .inl (Oper.wp_mono (fun a' w' hq => ?_) h4)
        cases fuel with
        | zero => exact ⟨hemp, hq⟩
        | succ f => exact ⟨fun _ => hq, fun j hj => by rw [hemp] at hj; cases hj⟩
      · exact absurd h2.1 (hna a w)
    · have hk : ∀ a w, wpAny P md ops' (PostOf P o Q) fuel (listed.setIfInBounds i true) a w → wpAny P md ops Q fuel (listed.setIfInBounds i true) a w := fun a w => ih _ a w (by simpa using hz) ((hself listed i hin).trans hn)
      have hlo : LetsOut (PostOf P o Q) → LetsOut Q := fun q => q
      unfold wpOp at h2 ⊢
      rw [hs i hin] at h2
      cases hoi : ops[i]? with
      | none => rw [hoi] at h2; exact hk _ _ h2
      | some oi =>
        rw [hoi] at h2
        dsimp only at h2 ⊢
        rw [hy] at h2
        by_cases hwi : Region.wanted oi (yielded ops a.tmps) = true
        · rw [if_pos hwi] at h2 ⊢
          exact h2.imp (wp_swap hk (fun _ _ _ q => q) hlo) (fun q => ⟨q.1, hlo q.2⟩)
        · rw [if_neg hwi] at h2 ⊢
          exact hk _ _ h2
end
section
variable {P : Program} {md : Region.Mode}
theorem getD_set_ne (l : Array Bool) {i n : Nat} (h : i ≠ n) : (l.setIfInBounds i true).getD n true = l.getD n true := by
  simp only [Array.getD_eq_getD_getElem?]
  rw [Array.getElem?_setIfInBounds_ne h]
theorem getD_set_self (l : Array Bool) (n : Nat) : (l.setIfInBounds n true).getD n true = true := by
  simp only [Array.getD_eq_getD_getElem?, Array.getElem?_setIfInBounds_self]
  split <;> rfl
theorem ready_set {ops : Array Oper} {n : Nat} {o o' : Oper} (ho : ops[n]? = some o) (ha : o'.after = o.after) (listed : Array Bool) : Region.ready md (ops.setIfInBounds n o') listed = Region.ready md ops listed := by
  have hn : n < ops.size := (Array.getElem?_eq_some_iff.1 ho).1
  unfold Region.ready
  rw [Array.size_setIfInBounds]
  refine List.filter_congr (fun i _ => ?_)
  by_cases h : n = i
  · subst h
    rw [Array.getElem?_setIfInBounds_self, if_pos hn, ho]
    simp only [Option.map_some, ha]
  · rw [Array.getElem?_setIfInBounds_ne h]
theorem yielded_set {ops : Array Oper} {n : Nat} {o o' : Oper} (ho : ops[n]? = some o) (hd : o'.dst = o.dst) (t : Array Value) : yielded (ops.setIfInBounds n o') t = yielded ops t := by
  have hn : n < ops.size := (Array.getElem?_eq_some_iff.1 ho).1
  funext j
  unfold yielded
  by_cases h : n = j
  · subst h
    rw [Array.getElem?_setIfInBounds_self, if_pos hn, ho]
    simp only [Option.bind_some, hd]
  · rw [Array.getElem?_setIfInBounds_ne h]
def backOk (ops : Array Oper) : Bool := (List.range ops.size).all fun i => match ops[i]? with
  | some o => o.after.all fun e => decide (e.on < i)
  | none => true
def lastOk (md : Region.Mode) (n : Nat) (o : Oper) : Bool := (List.range n).all fun i => o.after.any fun e => Region.binds md e && e.on == i
theorem least_false {p : Nat → Bool} : ∀ n, p n = false → ∃ i, i ≤ n ∧ p i = false ∧ ∀ j, j < i → p j = true := by
  intro n
  induction n using Nat.strongRecOn with
  | ind n ih =>
    intro h
    by_cases q : ∃ j, j < n ∧ p j = false
    · obtain ⟨j, hj, hp⟩ := q
      obtain ⟨i, h1, h2, h3⟩ := ih j hj hp
      exact ⟨i, by omega, h2, h3⟩
    · exact ⟨n, Nat.le_refl _, h, fun j hj => by
        cases hp : p j with
        | true => rfl
        | false => exact absurd ⟨j, hj, hp⟩ q⟩
theorem ready_live {ops : Array Oper} (hb : backOk ops = true) {n : Nat} (hn : n < ops.size) (listed : Array Bool) (h : listed.getD n true = false) : Region.ready md ops listed ≠ [] := by
  obtain ⟨i, h3, h1, h2⟩ := least_false (p := fun i => listed.getD i true) n h
  have hi : i < ops.size := by omega
  intro he
  have hmem : i ∈ Region.ready md ops listed := by
    unfold Region.ready
    rw [List.mem_filter]
    refine ⟨List.mem_range.2 hi, ?_⟩
    have hbi := List.all_eq_true.1 hb i (List.mem_range.2 hi)
    rw [Array.getElem?_eq_getElem hi] at hbi ⊢
    simp only [Option.map_some, Option.getD_some, h1, Bool.not_false, Bool.true_and]
    rw [Array.all_eq_true_iff_forall_mem] at hbi ⊢
    intro e hem
    have := of_decide_eq_true (hbi e hem)
    have h4 := h2 e.on this
    have h5 : listed.getD e.on false = true := by
      simp only [Array.getD_eq_getD_getElem?] at h4 ⊢
      cases hl : listed[e.on]? with
      | some b => rw [hl] at h4; simpa using h4
      | none =>
        exfalso
        have hge := Array.getElem?_eq_none_iff.1 hl
        have : listed.getD i true = true := by
          simp only [Array.getD_eq_getD_getElem?]
          rw [Array.getElem?_eq_none (by omega)]; rfl
        rw [this] at h1; cases h1
    rw [h5, Bool.or_true]
  rw [he] at hmem; cases hmem
theorem ready_last {ops : Array Oper} {n : Nat} {o : Oper} (ho : ops[n]? = some o) (hz : ops.size = n + 1) (hl : lastOk md n o = true) (listed : Array Bool) (h : n ∈ Region.ready md ops listed) : Region.ready md ops (listed.setIfInBounds n true) = [] := by
  unfold Region.ready at h ⊢
  rw [List.mem_filter] at h
  have h2 := h.2
  rw [ho] at h2
  simp only [Option.map_some, Option.getD_some, Bool.and_eq_true] at h2
  have h3 := Array.all_eq_true_iff_forall_mem.1 h2.2
  rw [List.filter_eq_nil_iff]
  intro i hi
  rw [List.mem_range, hz] at hi
  have h4 : (listed.setIfInBounds n true).getD i true = true := by
    by_cases hin : i = n
    · subst hin; exact getD_set_self _ _
    · rw [getD_set_ne _ (fun e => hin e.symm)]
      have hli := List.all_eq_true.1 hl i (List.mem_range.2 (by omega))
      obtain ⟨k, hk, hq⟩ := Array.any_eq_true.1 hli
      have he := Array.getElem_mem hk
      generalize o.after[k] = e at he hq
      simp only [Bool.and_eq_true, beq_iff_eq] at hq
      have h5 := h3 e he
      rw [hq.1, hq.2] at h5
      simp only [Bool.not_true, Bool.false_or] at h5
      simp only [Array.getD_eq_getD_getElem?] at h5 ⊢
      cases hl2 : listed[i]? with
      | some b => rw [hl2] at h5; simpa using h5
      | none => rfl
  rw [h4]
  simp
theorem region_swap {ops : Array Oper} {id n : Nat} {o o' : Oper} {Q : Exit → Act → World → Prop} {a : Act} {w : World} (hm : P.follows .mixedOrders = true) (hz : ops.size = n + 1) (ho : ops[n]? = some o) (ha : o'.after = o.after) (hd : o'.dst = o.dst) (hg : o.guard = none) (hg' : o'.guard = none) (hb : backOk ops = true) (hl : lastOk .any n o = true)
    (hno : ∀ a w K Q, o'.wp P a w K Q → K a w) (hna : ∀ a w, ¬ o'.asks P a w)
    (h : wpAny P .any (ops.setIfInBounds n o') (PostOf P o Q) ops.size (Array.replicate ops.size false) a w.drew) : (Code.region id ops true).wp P Q a w := by
  have hn : n < ops.size := by omega
  refine wp_region_any hm ?_
  refine wpAny_swap (n := n) (o := o) (o' := o') (fun l => ready_set ho ha l) (fun i hi => Array.getElem?_setIfInBounds_ne (fun e => hi e.symm)) (fun t => yielded_set ho hd t) ho (by rw [Array.getElem?_setIfInBounds_self, if_pos hn]) (fun t => by simp [Region.wanted, hg]) hno hna (fun t => by simp [Region.wanted, hg']) (fun listed _ hr l' e => by rw [e]; exact ready_last ho hz hl listed hr) (fun listed _ hq => ready_live hb hn listed hq) (fun listed i hi => getD_set_ne _ hi) ops.size _ a _ (by simp) (by simp [Array.getD_eq_getD_getElem?, hn]) h
end
section
variable {P : Program}
def nopOf (o : Oper) : Oper := { o with op := .assign (.const (.bool true)) }
theorem nop_run (o : Oper) (a : Act) (w : World) : (execOp a.eval (nopOf o)).run P w = .ok (.value (.bool true)) w := by
  simp [nopOf, execOp, go_sem]
theorem nop_wp (o : Oper) (hd : o.dst = none) (a : Act) (w : World) (K : Act → World → Prop) (Q : Exit → Act → World → Prop) (h : (nopOf o).wp P a w K Q) : K a w := by
  unfold Oper.wp at h
  rw [nop_run] at h
  have h2 : K (a.put o.dst (.bool true)) w := h
  rw [hd] at h2
  exact h2
theorem nop_asks (o : Oper) (a : Act) (w : World) : ¬ (nopOf o).asks P a w := by
  intro h
  have h1 := h.1
  simp [nopOf, execOp, go_sem] at h1
  have h2 : noRoomEvent ∈ (#[] : Array _) := h1
  simp at h2
theorem region_swapN {ops : Array Oper} {id n : Nat} {o : Oper} {Q : Exit → Act → World → Prop} {a : Act} {w : World} (S : World → Prop) (hm : P.follows .mixedOrders = true) (hz : ops.size = n + 1) (ho : ops[n]? = some o) (hd : o.dst = none) (hg : o.guard = none) (hb : backOk ops = true) (hl : lastOk .any n o = true)
    (h : wpAnyH P .any (ops.setIfInBounds n (nopOf o)) (PostOf P o Q) S ops.size (Array.replicate ops.size false) a w.drew) : (Code.region id ops true).wp P Q a w :=
  region_swap hm hz ho (o' := nopOf o) rfl rfl hg hg hb hl (fun a w K Q => nop_wp o hd a w K Q) (fun a w => nop_asks o a w) (wpAny_of_held _ _ _ _ h)
end
structure ToldI (w : World) (wx : World) (g : Nat) (v0 v2 : Value) (cl chn : List Int) (back : Int) : Prop where
  b : Below w.heap.size w wx
  res : wx.heap[w.heap.size]? = some (.cells #[.slice none 0 0, .int .i64 0, .slice none 0 0] 30 (0, 0))
  blk : wx.heap[g]? = some (.cells #[v0, .int .i64 back, v2] 30 (0, 0))
  g0 : w.heap.size < g
  r0 : Kd.R (Kd.int .i64) 3 wx w.heap.size (fun k => some k ≠ v2.ownBlock) v0 cl
  r2 : Kd.R (Kd.int .i64) 3 wx w.heap.size (fun _ => True) v2 chn
theorem told_met {w w2 W : World} {first : Int} {b g : Nat} {v : Value} {l : List Int} (hb : Below w.heap.size w w2) (hr : w2.heap[w.heap.size]? = some (.cells #[.slice none 0 0, .int .i64 0, .slice none 0 0] 30 (0, 0))) (h : TI w2 first (some b) (some g) (some (v, l)) W) :
    ToldI w (((W.setCell ⟨g, 0, none⟩ (.slice (some ⟨b, 0, none⟩) 1 1)).setCell ⟨g, 1, none⟩ (.int .i64 0)).setCell ⟨g, 2, none⟩ v) g (.slice (some ⟨b, 0, none⟩) 1 1) v [first] l 0 := by
  obtain ⟨h1, h2⟩ := h.r1 b rfl
  obtain ⟨h3, h4⟩ := h.r7 g rfl
  have h5 := h.rv v l rfl
  have h6 := h.ap b v l rfl rfl
  have hw2 := blk_lt hr
  have hbg : b ≠ g := by
    rintro rfl
    rw [h2] at h4
    injection h4 with h4
    injection h4 with _ h4
    exact absurd h4 (by decide)
  have hk : ∀ k, k ≠ g → (((W.setCell ⟨g, 0, none⟩ (.slice (some ⟨b, 0, none⟩) 1 1)).setCell ⟨g, 1, none⟩ (.int .i64 0)).setCell ⟨g, 2, none⟩ v).heap[k]? = W.heap[k]? := fun k hk => by
    rw [Below.heap_setCell _ ⟨g, 2, none⟩ v k hk, Below.heap_setCell _ ⟨g, 1, none⟩ _ k hk, Below.heap_setCell _ ⟨g, 0, none⟩ _ k hk]
  have hbb := below_step hb h.b
  refine ⟨below_set (below_set (below_set hbb (by omega)) (by omega)) (by omega), ?_, blk_set (blk_set (blk_set h4 0 _) 1 _) 2 _, by omega, ?_, ?_⟩
  · rw [hk _ (by omega), h.b.block _ hw2]
    exact hr
  · exact R_one ((hk b hbg).trans h2) (by omega) _ h6
  · refine Kd.R_step (Kd.R_mono (Kd.R_types (Kd.R_lower h5 hb.size) h4 (by simp [Kd.int, Kd.scalar])) (fun k q => q.2)) ?_ |> fun q => Kd.R_mono q (fun _ _ => trivial)
    exact fun k q _ => hk k q
structure ToldJ (w : World) (wx : World) (g : Nat) (v0 v2 vf : Value) (cl chn l : List Int) (back : Int) : Prop where
  t : ToldI w wx g v0 v2 cl chn back
  f : Kd.R (Kd.int .i64) 3 wx w.heap.size (fun k => some k ≠ v0.ownBlock) vf l
theorem ToldI.step {w w1 w2 : World} {g : Nat} {v0 v2 : Value} {cl chn : List Int} {back : Int} (h : ToldI w w1 g v0 v2 cl chn back) (hb : Below w1.heap.size w1 w2) : ToldI w w2 g v0 v2 cl chn back :=
  ⟨below_step h.b hb, (hb.block _ (blk_lt h.res)).trans h.res, (hb.block _ (blk_lt h.blk)).trans h.blk, h.g0, Kd.R_below h.r0 hb, Kd.R_below h.r2 hb⟩
theorem ToldJ.step {w w1 w2 : World} {g : Nat} {v0 v2 vf : Value} {cl chn l : List Int} {back : Int} (h : ToldJ w w1 g v0 v2 vf cl chn l back) (hb : Below w1.heap.size w1 w2) : ToldJ w w2 g v0 v2 vf cl chn l back :=
  ⟨h.t.step hb, Kd.R_below h.f hb⟩
theorem ToldJ.put1 {w W : World} {g : Nat} {v0 v2 vf : Value} {cl chn l : List Int} {back : Int} (h : ToldJ w W g v0 v2 vf cl chn l back) (b' : Int) : ToldJ w (W.setCell ⟨g, 1, none⟩ (.int .i64 b')) g v0 v2 vf cl chn l b' := by
  have hg := h.t.g0
  have hk : ∀ k, k ≠ g → (W.setCell ⟨g, 1, none⟩ (.int .i64 b')).heap[k]? = W.heap[k]? := fun k hk => Below.heap_setCell _ ⟨g, 1, none⟩ _ k hk
  refine ⟨⟨below_set h.t.b (by omega), (hk _ (by omega)).trans h.t.res, by have := blk_set h.t.blk 1 (.int .i64 b'); simpa using this, hg, ?_, ?_⟩, ?_⟩
  · exact Kd.R_set h.t.r0 h.t.blk (by simp [Kd.int, Kd.scalar]) 1 _
  · exact Kd.R_set h.t.r2 h.t.blk (by simp [Kd.int, Kd.scalar]) 1 _
  · exact Kd.R_set h.f h.t.blk (by simp [Kd.int, Kd.scalar]) 1 _
theorem ToldJ.put0 {w W w1 : World} {g : Nat} {v0 v1 v2 vf : Value} {cl cl1 chn l : List Int} {back : Int} (h : ToldJ w W g v0 v2 vf cl chn l back) (hr : Kd.R (Kd.int .i64) 3 w1 w.heap.size (fun k => some k ≠ v2.ownBlock ∧ some k ≠ vf.ownBlock) v1 cl1) (hg : W.grownBy w1 v0.ownBlock) : ToldJ w (w1.setCell ⟨g, 0, none⟩ v1) g v1 v2 vf cl1 chn l back := by
  have hg0 := h.t.g0
  have hgn : some g ≠ v0.ownBlock := Kd.R_ne h.t.r0 h.t.blk (by decide)
  have hrn : some w.heap.size ≠ v0.ownBlock := Kd.R_ne h.t.r0 h.t.res (by decide)
  have hb1 : Below w.heap.size w w1 := pw_below_grown h.t.b _ h.t.b.size hg (fun k e => Kd.R_base h.t.r0 k e)
  have hblk := (hg.block _ (blk_lt h.t.blk) hgn).trans h.t.blk
  have h2 : Kd.R (Kd.int .i64) 3 w1 w.heap.size (fun _ => True) v2 chn := Kd.R_grown2 h.t.r2 rfl hg (fun k e q => h.t.r0.1 k e q)
  have h3 : Kd.R (Kd.int .i64) 3 w1 w.heap.size (fun k => some k ≠ v1.ownBlock) vf l := Kd.R_reok rfl (Kd.R_grown2 h.f rfl hg (fun k e q => h.f.1 k q.symm e.symm)) (fun k e q => (hr.1 k q.symm).2 e.symm)
  refine ⟨⟨below_set hb1 (by omega), ?_, by have := blk_set hblk 0 v1; simpa using this, hg0, ?_, ?_⟩, ?_⟩
  · rw [Below.heap_setCell _ ⟨g, 0, none⟩ _ _ (by show w.heap.size ≠ g; omega)]
    exact (hg.block _ (blk_lt h.t.res) hrn).trans h.t.res
  · exact Kd.R_set (Kd.R_mono hr (fun k q => q.1)) hblk (by simp [Kd.int, Kd.scalar]) 0 _
  · exact Kd.R_set h2 hblk (by simp [Kd.int, Kd.scalar]) 0 _
  · exact Kd.R_set h3 hblk (by simp [Kd.int, Kd.scalar]) 0 _
theorem told_end {w W : World} {g : Nat} {A0 Ac : Option Addr} {c0 cc n m : Nat} {vf : Value} {cl chn l : List Int} {back : Int} (h : ToldJ w W g (.slice A0 n c0) (.slice Ac m cc) vf cl chn l back) :
    (((W.setCell ⟨w.heap.size, 0, none⟩ (.slice A0 n c0)).setCell ⟨w.heap.size, 1, none⟩ (.int .i64 back)).setCell ⟨w.heap.size, 2, none⟩ (.slice Ac m cc)).heap[w.heap.size]? = some (.cells #[.slice A0 n c0, .int .i64 back, .slice Ac m cc] 30 (0, 0)) ∧
    Kd.R (Kd.int .i64) 3 (((W.setCell ⟨w.heap.size, 0, none⟩ (.slice A0 n c0)).setCell ⟨w.heap.size, 1, none⟩ (.int .i64 back)).setCell ⟨w.heap.size, 2, none⟩ (.slice Ac m cc)) w.heap.size (fun k => some k ≠ (Value.slice Ac m cc).ownBlock) (.slice A0 n c0) cl ∧
    Kd.R (Kd.int .i64) 3 (((W.setCell ⟨w.heap.size, 0, none⟩ (.slice A0 n c0)).setCell ⟨w.heap.size, 1, none⟩ (.int .i64 back)).setCell ⟨w.heap.size, 2, none⟩ (.slice Ac m cc)) w.heap.size (fun k => some k ≠ (Value.slice A0 n c0).ownBlock) (.slice Ac m cc) chn ∧
    Below w.heap.size w (((W.setCell ⟨w.heap.size, 0, none⟩ (.slice A0 n c0)).setCell ⟨w.heap.size, 1, none⟩ (.int .i64 back)).setCell ⟨w.heap.size, 2, none⟩ (.slice Ac m cc)) := by
  have hb0 := blk_set h.t.res 0 (.slice A0 n c0)
  have hb1 := blk_set hb0 1 (.int .i64 back)
  have hb2 := blk_set hb1 2 (.slice Ac m cc)
  have hn : ∀ q, q ∈ 3 :: (Kd.int .i64).E → q ≠ 30 := by simp [Kd.int, Kd.scalar]
  have r2 : Kd.R (Kd.int .i64) 3 W w.heap.size (fun k => some k ≠ (Value.slice A0 n c0).ownBlock) (.slice Ac m cc) chn := Kd.R_reok rfl h.t.r2 (fun k e q => h.t.r0.1 k q.symm e.symm)
  exact ⟨by simpa using hb2, Kd.R_set (Kd.R_set (Kd.R_set h.t.r0 h.t.res hn 0 _) hb0 hn 1 _) hb1 hn 2 _, Kd.R_set (Kd.R_set (Kd.R_set r2 h.t.res hn 0 _) hb0 hn 1 _) hb1 hn 2 _, below_set (below_set (below_set h.t.b (Nat.le_refl _)) (Nat.le_refl _)) (Nat.le_refl _)⟩
def restL (ms : List Mk) (s : List Int) (first : Int) : List Int := (fallL ms s).filter fun x => x ≠ first
set_option maxHeartbeats 16000000 in
set_option maxRecDepth 100000 in
theorem an_told (L tb sb : Nat) (cs : List (List Int)) (ms : List Mk) (ok : Nat → Prop) (s ch ahead : List Int) (first : Int) (A2 : Option Addr) (c2 : Nat) (w : World) (hT : Tr w L tb cs ms) (hS : Se w ok sb tb s ch) (hf : AllF ms s) (hwf : Wf cs ms) (hC2 : Kd.C (Kd.int .i64) w A2 ahead.length ahead) (hla : ahead.length ≤ 1099511627776) (hlc : ch.length ≤ 1099511627776) :
    Calls Try.prog 41 #[.pointer (some ⟨sb, 0, none⟩), .int .i64 first, .slice A2 ahead.length c2] w fun e w' => ∃ v0 v2, e = .returned (.agg #[v0, .int .i64 (mostL ms (restL ms s first)), v2]) ∧
      Kd.R (Kd.int .i64) 3 w' w.heap.size (fun k => some k ≠ v2.ownBlock) v0 (first :: restL ms s first) ∧ Kd.R (Kd.int .i64) 3 w' w.heap.size (fun k => some k ≠ v0.ownBlock) v2 (ahead ++ ch) ∧ Below w.heap.size w w' := by
  have HSE := Aside0.mk hS
  obtain ⟨mb, vch, hS⟩ := hS
  have HT := Aside0.mk hT
  have HS := Aside0.mk hS
  have HF := Aside0.mk hf
  have HW := Aside0.mk hwf
  have HXW : Aside0 (∀ x ∈ s, w64 x) := ⟨fun x hx => (hS.map.wf x hx).1⟩
  obtain ⟨Ah, chc, rfl⟩ := Kd.R_slice hS.rch
  have HC20 := Aside0.mk hC2
  have HLA := Aside0.mk hla
  have HLC := Aside0.mk hlc
  clear hT hS hf hwf hC2 hla hlc
  go_enter Try.func41, Try.ntmps41
  go_upto_region 1 with fail
  obtain ⟨w2, hw2⟩ : ∃ w2, w2 = w.alloc (.cells #[.slice none 0 0, .int .i64 0, .slice none 0 0] 30) := ⟨_, rfl⟩
  have hb2 : Below w.heap.size w w2 := by rw [hw2]; exact below_alloc (Below.refl _ _) _
  have hres2 : w2.heap[w.heap.size]? = some (.cells #[.slice none 0 0, .int .i64 0, .slice none 0 0] 30 (0, 0)) := by rw [hw2]; exact heap_alloc_new _ _
  rw [← hw2]
  clear hw2
  have HS2 := Aside0.mk (HS.out.step (w1 := w2) (fun k _ hk => hb2.block k hk))
  have HC2 := Aside0.mk (Kd.C_below HC20.out hb2)
  have HCH := Aside0.mk (Kd.R_reads' HS2.out.rch).2.2
  have hSB : Aside0 (∀ W, Below w2.heap.size w2 W → W.cell? ⟨sb, 2, none⟩ = some (.slice Ah ch.length chc)) := ⟨fun W hW => (hW.cell (p := ⟨sb, 2, none⟩) (blk_lt HS2.out.blk)).trans HS2.out.c2⟩
  have HB2 := Aside0.mk (And.intro hb2 hres2)
  clear hb2 hres2
  go_cut [7] (fun s7 wx => ∃ g v0 v2, s7 = .pointer (some ⟨g, 0, none⟩) ∧ Aside0 (ToldI w wx g v0 v2 [first] (ahead ++ ch) 0))
  case first =>
    refine wp_region_noPanic ?_
    refine region_swapN (n := 11) (fun w' => w'.cell? ⟨sb, 2, none⟩ = some (.slice Ah ch.length chc)) (by kernel_rfl) rfl rfl rfl rfl (by kernel_rfl) (by kernel_rfl) ?_
    simp only [List.setIfInBounds_toArray, List.set_cons_succ, List.set_cons_zero, nopOf]
    have hHeld : w2.drew.cell? ⟨sb, 2, none⟩ = some (.slice Ah ch.length chc) := hSB.out _ (below_drew1 (Below.refl _ _))
    have HT0 : Aside0 (TI w2 first none none none w2.drew) := ⟨⟨below_drew1 (Below.refl _ _), fun _ e => (by cases e), fun _ e => (by cases e), fun _ _ e => (by cases e), fun _ _ _ e => (by cases e)⟩⟩
    generalize w2.drew = w3 at HT0 hHeld ⊢
    refine wpAnyH_take (i := 0) (oi := _) (v := ?_) rfl (by kernel_rfl) (by kernel_rfl) (by kernel_rfl) (fun _ _ _ h => h) (Or.inl ⟨by rfl, ?_⟩) (by assumption) ?_
    rotate_left
    · intro w hSw
      (try dsimp only at hSw)
      first | (go_simp; done) | (go_simp; with_reducible rfl)
    (try simp only [Act.put, List.setIfInBounds_toArray, List.set_cons_zero, List.set_cons_succ])
    refine wpAnyH_take (i := 2) (oi := _) (v := ?_) rfl (by kernel_rfl) (by kernel_rfl) (by kernel_rfl) (fun _ _ _ h => h) (Or.inl ⟨by rfl, ?_⟩) (by assumption) ?_
    rotate_left
    · intro w hSw
      (try dsimp only at hSw)
      first | (go_simp; done) | (go_simp; with_reducible rfl)
    (try simp only [Act.put, List.setIfInBounds_toArray, List.set_cons_zero, List.set_cons_succ])
    refine wpAnyH_take (i := 4) (oi := _) (v := ?_) rfl (by kernel_rfl) (by kernel_rfl) (by kernel_rfl) (fun _ _ _ h => h) (Or.inl ⟨by rfl, ?_⟩) (by assumption) ?_
    rotate_left
    · intro w hSw
      (try dsimp only at hSw)
      first | (go_simp; done) | (go_simp; with_reducible rfl)
    (try simp only [Act.put, List.setIfInBounds_toArray, List.set_cons_zero, List.set_cons_succ])
    refine wpAnyH_take (i := 5) (oi := _) (v := ?_) rfl (by kernel_rfl) (by kernel_rfl) (by kernel_rfl) (fun _ _ _ h => h) (Or.inl ⟨by rfl, ?_⟩) (by assumption) ?_
    rotate_left
    · intro w hSw
      (try dsimp only at hSw)
      first | (go_simp; done) | (go_simp; with_reducible rfl)
    (try simp only [Act.put, List.setIfInBounds_toArray, List.set_cons_zero, List.set_cons_succ])
    refine wpAnyH_take (i := 6) (oi := _) (v := ?_) rfl (by kernel_rfl) (by kernel_rfl) (by kernel_rfl) (fun _ _ _ h => h) (Or.inl ⟨by rfl, ?_⟩) (by assumption) ?_
    rotate_left
    · intro w hSw
      (try dsimp only at hSw)
      first | (go_simp; done) | (go_simp; with_reducible rfl)
    (try simp only [Act.put, List.setIfInBounds_toArray, List.set_cons_zero, List.set_cons_succ])
    refine wpAnyH_take (i := 7) (oi := _) (v := ?_) rfl (by kernel_rfl) (by kernel_rfl) (by kernel_rfl) (fun _ _ _ h => h) (Or.inl ⟨by rfl, ?_⟩) (by assumption) ?_
    rotate_left
    · intro w hSw
      (try dsimp only at hSw)
      first | (go_simp; done) | (go_simp; with_reducible rfl)
    (try simp only [Act.put, List.setIfInBounds_toArray, List.set_cons_zero, List.set_cons_succ])
    refine wpAnyH_ready (rs := [1, 3, 10]) (by kernel_rfl) (by simp) ?_
    refine AllReadyH.cons (o := _) rfl (fun K hK => ?_) (AllReadyH.cons (o := _) rfl (fun K hK => ?_) (AllReadyH.cons (o := _) rfl (fun K hK => ?_) (AllReadyH.nil)))
    · skip
      go_simp
      have HT1 := Aside0.mk (HT0.out.mk1)
      clear HT0
      refine hK.out _ _ ?_ (fun hHeld => ?_)
      · exact hSB.out _ HT1.out.b
      clear hK K
      (try simp only [Act.put, List.setIfInBounds_toArray, List.set_cons_zero, List.set_cons_succ])
      clear hHeld
      have hHeld := hSB.out _ HT1.out.b
      generalize w3.heap.size = b at HT1 ⊢
      generalize w3.alloc (.cells #[.int .i64 first] 3) = w4 at HT1 hHeld ⊢
      have HT0 := HT1
      clear HT1
      refine wpAnyH_ready (rs := [3, 10]) (by kernel_rfl) (by simp) ?_
      refine AllReadyH.cons (o := _) rfl (fun K hK => ?_) (AllReadyH.cons (o := _) rfl (fun K hK => ?_) (AllReadyH.nil))
      · skip
        go_simp
        go_at_call 71
        refine (clone_ints A2 c2 ahead _ (Kd.C_below HC2.out HT0.out.b) HLA.out).mono ?_
        rintro e w5 ⟨v, rfl, hv, hbv⟩
        have HT1 := Aside0.mk (HT0.out.mk3 hv hbv)
        clear HT0 hv hbv
        (try go_wp2_with fail)
        refine hK.out _ _ ?_ (fun hHeld => ?_)
        · exact hSB.out _ HT1.out.b
        clear hK K
        (try simp only [Act.put, List.setIfInBounds_toArray, List.set_cons_zero, List.set_cons_succ])
        have HT0 := HT1
        clear HT1
        refine wpAnyH_ready (rs := [8, 10]) (by kernel_rfl) (by simp) ?_
        refine AllReadyH.cons (o := _) rfl (fun K hK => ?_) (AllReadyH.cons (o := _) rfl (fun K hK => ?_) (AllReadyH.nil))
        · skip
          refine R_append_rows_law (Kd.int .i64) (Rr := (Kd.int .i64).K w5) (w0 := w2) w2.heap.size rfl (.tmp 13) (.tmp 17) 27 3 (.int .i64 0) 8 rfl Try.underlying27 info_int rfl (by decide) (by omega) v ahead ch Ah ch.length chc (fun _ => True) (fun _ => False) (by simp [Act.eval, Act.put]) (by simp [Act.eval, Act.put]) (HT0.out.rv v ahead rfl) (Kd.C_below HCH.out HT0.out.b) (fun _ _ h => h) (fun _ h => h.elim) (fun _ _ => trivial) HT0.out.b HT0.out.b.size (by have := HLA.out; have := HLC.out; omega) ?_
          intro v1 w6 ho hb hg hat
          obtain ⟨A1, cc1, rfl⟩ := Kd.R_slice ho
          have HT1 := Aside0.mk (HT0.out.mk8 ho hg hat)
          clear HT0 ho hb hg hat
          refine hK.out _ _ ?_ (fun hHeld => ?_)
          · exact hSB.out _ HT1.out.b
          clear hK K
          (try simp only [Act.put, List.setIfInBounds_toArray, List.set_cons_zero, List.set_cons_succ])
          have HT0 := HT1
          clear HT1
          refine wpAnyH_take (i := 9) (oi := _) (v := ?_) rfl (by kernel_rfl) (by kernel_rfl) (by kernel_rfl) (fun _ _ _ h => h) (Or.inl ⟨by rfl, ?_⟩) (by assumption) ?_
          rotate_left
          · intro w hSw
            (try dsimp only at hSw)
            first | (go_simp; done) | (go_simp; with_reducible rfl)
          (try simp only [Act.put, List.setIfInBounds_toArray, List.set_cons_zero, List.set_cons_succ])
          refine wpAnyH_ready (rs := [10]) (by kernel_rfl) (by simp) ?_
          refine AllReadyH.cons (o := _) rfl (fun K hK => ?_) (AllReadyH.nil)
          · skip
            go_simp
            have HT1 := Aside0.mk (HT0.out.mk7)
            clear HT0
            refine hK.out _ _ ?_ (fun hHeld => ?_)
            · exact hSB.out _ HT1.out.b
            clear hK K
            (try simp only [Act.put, List.setIfInBounds_toArray, List.set_cons_zero, List.set_cons_succ])
            clear hHeld
            have hHeld := hSB.out _ HT1.out.b
            generalize w6.heap.size = g at HT1 ⊢
            generalize w6.alloc (.cells #[.slice none 0 0, .int .i64 0, .slice none 0 0] 30) = w7 at HT1 hHeld ⊢
            have HT0 := HT1
            clear HT1
            refine wpAnyH_ready (rs := [11]) (by kernel_rfl) (by simp) ?_
            refine AllReadyH.cons (o := _) rfl (fun K hK => ?_) AllReadyH.nil
            go_simp
            refine hK.out _ _ hHeld (fun hHeld => ?_)
            clear hK K
            (try simp only [Act.put, List.setIfInBounds_toArray, List.set_cons_zero, List.set_cons_succ])
            refine wpAnyH_done (by kernel_rfl) ?_ _
            show Oper.wp Try.prog _ _ _ _ _
            obtain ⟨hle7, hg7⟩ := HT0.out.r7 _ rfl
            have q0 : w7.cell? ⟨g, 0, none⟩ = some (.slice none 0 0) := blk_cell hg7 0
            have q1 : w7.cell? ⟨g, 1, none⟩ = some (.int .i64 0) := blk_cell hg7 1
            have q2 : w7.cell? ⟨g, 2, none⟩ = some (.slice none 0 0) := blk_cell hg7 2
            have p0 := blk_frozen hg7 0
            have p1 := blk_frozen hg7 1
            have p2 := blk_frozen hg7 2
            clear hHeld hle7 hg7
            go_simp
            refine NoPanic.normal ?_
            clear q0 q1 q2 p0 p1 p2
            go_step
            go_step
            go_meet
            exact ⟨g, _, _, rfl, ⟨told_met HB2.out.1 HB2.out.2 (by have q := HT0.out; rw [List.length_append] at q; exact q)⟩⟩
        · skip
          go_simp
          have HT1 := Aside0.mk (HT0.out.mk7)
          clear HT0
          refine hK.out _ _ ?_ (fun hHeld => ?_)
          · exact hSB.out _ HT1.out.b
          clear hK K
          (try simp only [Act.put, List.setIfInBounds_toArray, List.set_cons_zero, List.set_cons_succ])
          clear hHeld
          have hHeld := hSB.out _ HT1.out.b
          generalize w5.heap.size = g at HT1 ⊢
          generalize w5.alloc (.cells #[.slice none 0 0, .int .i64 0, .slice none 0 0] 30) = w8 at HT1 hHeld ⊢
          have HT0 := HT1
          clear HT1
          refine wpAnyH_ready (rs := [8]) (by kernel_rfl) (by simp) ?_
          refine AllReadyH.cons (o := _) rfl (fun K hK => ?_) (AllReadyH.nil)
          · skip
            refine R_append_rows_law (Kd.int .i64) (Rr := (Kd.int .i64).K w8) (w0 := w2) w2.heap.size rfl (.tmp 13) (.tmp 17) 27 3 (.int .i64 0) 8 rfl Try.underlying27 info_int rfl (by decide) (by omega) v ahead ch Ah ch.length chc (fun _ => True) (fun _ => False) (by simp [Act.eval, Act.put]) (by simp [Act.eval, Act.put]) (HT0.out.rv v ahead rfl) (Kd.C_below HCH.out HT0.out.b) (fun _ _ h => h) (fun _ h => h.elim) (fun _ _ => trivial) HT0.out.b HT0.out.b.size (by have := HLA.out; have := HLC.out; omega) ?_
            intro v1 w9 ho hb hg hat
            obtain ⟨A1, cc1, rfl⟩ := Kd.R_slice ho
            have HT1 := Aside0.mk (HT0.out.mk8 ho hg hat)
            clear HT0 ho hb hg hat
            refine hK.out _ _ ?_ (fun hHeld => ?_)
            · exact hSB.out _ HT1.out.b
            clear hK K
            (try simp only [Act.put, List.setIfInBounds_toArray, List.set_cons_zero, List.set_cons_succ])
            have HT0 := HT1
            clear HT1
            refine wpAnyH_take (i := 9) (oi := _) (v := ?_) rfl (by kernel_rfl) (by kernel_rfl) (by kernel_rfl) (fun _ _ _ h => h) (Or.inl ⟨by rfl, ?_⟩) (by assumption) ?_
            rotate_left
            · intro w hSw
              (try dsimp only at hSw)
              first | (go_simp; done) | (go_simp; with_reducible rfl)
            (try simp only [Act.put, List.setIfInBounds_toArray, List.set_cons_zero, List.set_cons_succ])
            refine wpAnyH_ready (rs := [11]) (by kernel_rfl) (by simp) ?_
            refine AllReadyH.cons (o := _) rfl (fun K hK => ?_) AllReadyH.nil
            go_simp
            refine hK.out _ _ hHeld (fun hHeld => ?_)
            clear hK K
            (try simp only [Act.put, List.setIfInBounds_toArray, List.set_cons_zero, List.set_cons_succ])
            refine wpAnyH_done (by kernel_rfl) ?_ _
            show Oper.wp Try.prog _ _ _ _ _
            obtain ⟨hle7, hg7⟩ := HT0.out.r7 _ rfl
            have q0 : w9.cell? ⟨g, 0, none⟩ = some (.slice none 0 0) := blk_cell hg7 0
            have q1 : w9.cell? ⟨g, 1, none⟩ = some (.int .i64 0) := blk_cell hg7 1
            have q2 : w9.cell? ⟨g, 2, none⟩ = some (.slice none 0 0) := blk_cell hg7 2
            have p0 := blk_frozen hg7 0
            have p1 := blk_frozen hg7 1
            have p2 := blk_frozen hg7 2
            clear hHeld hle7 hg7
            go_simp
            refine NoPanic.normal ?_
            clear q0 q1 q2 p0 p1 p2
            go_step
            go_step
            go_meet
            exact ⟨g, _, _, rfl, ⟨told_met HB2.out.1 HB2.out.2 (by have q := HT0.out; rw [List.length_append] at q; exact q)⟩⟩
      · skip
        go_simp
        have HT1 := Aside0.mk (HT0.out.mk7)
        clear HT0
        refine hK.out _ _ ?_ (fun hHeld => ?_)
        · exact hSB.out _ HT1.out.b
        clear hK K
        (try simp only [Act.put, List.setIfInBounds_toArray, List.set_cons_zero, List.set_cons_succ])
        clear hHeld
        have hHeld := hSB.out _ HT1.out.b
        generalize w4.heap.size = g at HT1 ⊢
        generalize w4.alloc (.cells #[.slice none 0 0, .int .i64 0, .slice none 0 0] 30) = w10 at HT1 hHeld ⊢
        have HT0 := HT1
        clear HT1
        refine wpAnyH_ready (rs := [3]) (by kernel_rfl) (by simp) ?_
        refine AllReadyH.cons (o := _) rfl (fun K hK => ?_) (AllReadyH.nil)
        · skip
          go_simp
          go_at_call 71
          refine (clone_ints A2 c2 ahead _ (Kd.C_below HC2.out HT0.out.b) HLA.out).mono ?_
          rintro e w11 ⟨v, rfl, hv, hbv⟩
          have HT1 := Aside0.mk (HT0.out.mk3 hv hbv)
          clear HT0 hv hbv
          (try go_wp2_with fail)
          refine hK.out _ _ ?_ (fun hHeld => ?_)
          · exact hSB.out _ HT1.out.b
          clear hK K
          (try simp only [Act.put, List.setIfInBounds_toArray, List.set_cons_zero, List.set_cons_succ])
          have HT0 := HT1
          clear HT1
          refine wpAnyH_ready (rs := [8]) (by kernel_rfl) (by simp) ?_
          refine AllReadyH.cons (o := _) rfl (fun K hK => ?_) (AllReadyH.nil)
          · skip
            refine R_append_rows_law (Kd.int .i64) (Rr := (Kd.int .i64).K w11) (w0 := w2) w2.heap.size rfl (.tmp 13) (.tmp 17) 27 3 (.int .i64 0) 8 rfl Try.underlying27 info_int rfl (by decide) (by omega) v ahead ch Ah ch.length chc (fun _ => True) (fun _ => False) (by simp [Act.eval, Act.put]) (by simp [Act.eval, Act.put]) (HT0.out.rv v ahead rfl) (Kd.C_below HCH.out HT0.out.b) (fun _ _ h => h) (fun _ h => h.elim) (fun _ _ => trivial) HT0.out.b HT0.out.b.size (by have := HLA.out; have := HLC.out; omega) ?_
            intro v1 w12 ho hb hg hat
            obtain ⟨A1, cc1, rfl⟩ := Kd.R_slice ho
            have HT1 := Aside0.mk (HT0.out.mk8 ho hg hat)
            clear HT0 ho hb hg hat
            refine hK.out _ _ ?_ (fun hHeld => ?_)
            · exact hSB.out _ HT1.out.b
            clear hK K
            (try simp only [Act.put, List.setIfInBounds_toArray, List.set_cons_zero, List.set_cons_succ])
            have HT0 := HT1
            clear HT1
            refine wpAnyH_take (i := 9) (oi := _) (v := ?_) rfl (by kernel_rfl) (by kernel_rfl) (by kernel_rfl) (fun _ _ _ h => h) (Or.inl ⟨by rfl, ?_⟩) (by assumption) ?_
            rotate_left
            · intro w hSw
              (try dsimp only at hSw)
              first | (go_simp; done) | (go_simp; with_reducible rfl)
            (try simp only [Act.put, List.setIfInBounds_toArray, List.set_cons_zero, List.set_cons_succ])
            refine wpAnyH_ready (rs := [11]) (by kernel_rfl) (by simp) ?_
            refine AllReadyH.cons (o := _) rfl (fun K hK => ?_) AllReadyH.nil
            go_simp
            refine hK.out _ _ hHeld (fun hHeld => ?_)
            clear hK K
            (try simp only [Act.put, List.setIfInBounds_toArray, List.set_cons_zero, List.set_cons_succ])
            refine wpAnyH_done (by kernel_rfl) ?_ _
            show Oper.wp Try.prog _ _ _ _ _
            obtain ⟨hle7, hg7⟩ := HT0.out.r7 _ rfl
            have q0 : w12.cell? ⟨g, 0, none⟩ = some (.slice none 0 0) := blk_cell hg7 0
            have q1 : w12.cell? ⟨g, 1, none⟩ = some (.int .i64 0) := blk_cell hg7 1
            have q2 : w12.cell? ⟨g, 2, none⟩ = some (.slice none 0 0) := blk_cell hg7 2
            have p0 := blk_frozen hg7 0
            have p1 := blk_frozen hg7 1
            have p2 := blk_frozen hg7 2
            clear hHeld hle7 hg7
            go_simp
            refine NoPanic.normal ?_
            clear q0 q1 q2 p0 p1 p2
            go_step
            go_step
            go_meet
            exact ⟨g, _, _, rfl, ⟨told_met HB2.out.1 HB2.out.2 (by have q := HT0.out; rw [List.length_append] at q; exact q)⟩⟩
    · skip
      go_simp
      go_at_call 71
      refine (clone_ints A2 c2 ahead _ (Kd.C_below HC2.out HT0.out.b) HLA.out).mono ?_
      rintro e w13 ⟨v, rfl, hv, hbv⟩
      have HT1 := Aside0.mk (HT0.out.mk3 hv hbv)
      clear HT0 hv hbv
      (try go_wp2_with fail)
      refine hK.out _ _ ?_ (fun hHeld => ?_)
      · exact hSB.out _ HT1.out.b
      clear hK K
      (try simp only [Act.put, List.setIfInBounds_toArray, List.set_cons_zero, List.set_cons_succ])
      have HT0 := HT1
      clear HT1
      refine wpAnyH_ready (rs := [1, 8, 10]) (by kernel_rfl) (by simp) ?_
      refine AllReadyH.cons (o := _) rfl (fun K hK => ?_) (AllReadyH.cons (o := _) rfl (fun K hK => ?_) (AllReadyH.cons (o := _) rfl (fun K hK => ?_) (AllReadyH.nil)))
      · skip
        go_simp
        have HT1 := Aside0.mk (HT0.out.mk1)
        clear HT0
        refine hK.out _ _ ?_ (fun hHeld => ?_)
        · exact hSB.out _ HT1.out.b
        clear hK K
        (try simp only [Act.put, List.setIfInBounds_toArray, List.set_cons_zero, List.set_cons_succ])
        clear hHeld
        have hHeld := hSB.out _ HT1.out.b
        generalize w13.heap.size = b at HT1 ⊢
        generalize w13.alloc (.cells #[.int .i64 first] 3) = w14 at HT1 hHeld ⊢
        have HT0 := HT1
        clear HT1
        refine wpAnyH_ready (rs := [8, 10]) (by kernel_rfl) (by simp) ?_
        refine AllReadyH.cons (o := _) rfl (fun K hK => ?_) (AllReadyH.cons (o := _) rfl (fun K hK => ?_) (AllReadyH.nil))
        · skip
          refine R_append_rows_law (Kd.int .i64) (Rr := (Kd.int .i64).K w14) (w0 := w2) w2.heap.size rfl (.tmp 13) (.tmp 17) 27 3 (.int .i64 0) 8 rfl Try.underlying27 info_int rfl (by decide) (by omega) v ahead ch Ah ch.length chc (fun _ => True) (fun _ => False) (by simp [Act.eval, Act.put]) (by simp [Act.eval, Act.put]) (HT0.out.rv v ahead rfl) (Kd.C_below HCH.out HT0.out.b) (fun _ _ h => h) (fun _ h => h.elim) (fun _ _ => trivial) HT0.out.b HT0.out.b.size (by have := HLA.out; have := HLC.out; omega) ?_
          intro v1 w15 ho hb hg hat
          obtain ⟨A1, cc1, rfl⟩ := Kd.R_slice ho
          have HT1 := Aside0.mk (HT0.out.mk8 ho hg hat)
          clear HT0 ho hb hg hat
          refine hK.out _ _ ?_ (fun hHeld => ?_)
          · exact hSB.out _ HT1.out.b
          clear hK K
          (try simp only [Act.put, List.setIfInBounds_toArray, List.set_cons_zero, List.set_cons_succ])
          have HT0 := HT1
          clear HT1
          refine wpAnyH_take (i := 9) (oi := _) (v := ?_) rfl (by kernel_rfl) (by kernel_rfl) (by kernel_rfl) (fun _ _ _ h => h) (Or.inl ⟨by rfl, ?_⟩) (by assumption) ?_
          rotate_left
          · intro w hSw
            (try dsimp only at hSw)
            first | (go_simp; done) | (go_simp; with_reducible rfl)
          (try simp only [Act.put, List.setIfInBounds_toArray, List.set_cons_zero, List.set_cons_succ])
          refine wpAnyH_ready (rs := [10]) (by kernel_rfl) (by simp) ?_
          refine AllReadyH.cons (o := _) rfl (fun K hK => ?_) (AllReadyH.nil)
          · skip
            go_simp
            have HT1 := Aside0.mk (HT0.out.mk7)
            clear HT0
            refine hK.out _ _ ?_ (fun hHeld => ?_)
            · exact hSB.out _ HT1.out.b
            clear hK K
            (try simp only [Act.put, List.setIfInBounds_toArray, List.set_cons_zero, List.set_cons_succ])
            clear hHeld
            have hHeld := hSB.out _ HT1.out.b
            generalize w15.heap.size = g at HT1 ⊢
            generalize w15.alloc (.cells #[.slice none 0 0, .int .i64 0, .slice none 0 0] 30) = w16 at HT1 hHeld ⊢
            have HT0 := HT1
            clear HT1
            refine wpAnyH_ready (rs := [11]) (by kernel_rfl) (by simp) ?_
            refine AllReadyH.cons (o := _) rfl (fun K hK => ?_) AllReadyH.nil
            go_simp
            refine hK.out _ _ hHeld (fun hHeld => ?_)
            clear hK K
            (try simp only [Act.put, List.setIfInBounds_toArray, List.set_cons_zero, List.set_cons_succ])
            refine wpAnyH_done (by kernel_rfl) ?_ _
            show Oper.wp Try.prog _ _ _ _ _
            obtain ⟨hle7, hg7⟩ := HT0.out.r7 _ rfl
            have q0 : w16.cell? ⟨g, 0, none⟩ = some (.slice none 0 0) := blk_cell hg7 0
            have q1 : w16.cell? ⟨g, 1, none⟩ = some (.int .i64 0) := blk_cell hg7 1
            have q2 : w16.cell? ⟨g, 2, none⟩ = some (.slice none 0 0) := blk_cell hg7 2
            have p0 := blk_frozen hg7 0
            have p1 := blk_frozen hg7 1
            have p2 := blk_frozen hg7 2
            clear hHeld hle7 hg7
            go_simp
            refine NoPanic.normal ?_
            clear q0 q1 q2 p0 p1 p2
            go_step
            go_step
            go_meet
            exact ⟨g, _, _, rfl, ⟨told_met HB2.out.1 HB2.out.2 (by have q := HT0.out; rw [List.length_append] at q; exact q)⟩⟩
        · skip
          go_simp
          have HT1 := Aside0.mk (HT0.out.mk7)
          clear HT0
          refine hK.out _ _ ?_ (fun hHeld => ?_)
          · exact hSB.out _ HT1.out.b
          clear hK K
          (try simp only [Act.put, List.setIfInBounds_toArray, List.set_cons_zero, List.set_cons_succ])
          clear hHeld
          have hHeld := hSB.out _ HT1.out.b
          generalize w14.heap.size = g at HT1 ⊢
          generalize w14.alloc (.cells #[.slice none 0 0, .int .i64 0, .slice none 0 0] 30) = w17 at HT1 hHeld ⊢
          have HT0 := HT1
          clear HT1
          refine wpAnyH_ready (rs := [8]) (by kernel_rfl) (by simp) ?_
          refine AllReadyH.cons (o := _) rfl (fun K hK => ?_) (AllReadyH.nil)
          · skip
            refine R_append_rows_law (Kd.int .i64) (Rr := (Kd.int .i64).K w17) (w0 := w2) w2.heap.size rfl (.tmp 13) (.tmp 17) 27 3 (.int .i64 0) 8 rfl Try.underlying27 info_int rfl (by decide) (by omega) v ahead ch Ah ch.length chc (fun _ => True) (fun _ => False) (by simp [Act.eval, Act.put]) (by simp [Act.eval, Act.put]) (HT0.out.rv v ahead rfl) (Kd.C_below HCH.out HT0.out.b) (fun _ _ h => h) (fun _ h => h.elim) (fun _ _ => trivial) HT0.out.b HT0.out.b.size (by have := HLA.out; have := HLC.out; omega) ?_
            intro v1 w18 ho hb hg hat
            obtain ⟨A1, cc1, rfl⟩ := Kd.R_slice ho
            have HT1 := Aside0.mk (HT0.out.mk8 ho hg hat)
            clear HT0 ho hb hg hat
            refine hK.out _ _ ?_ (fun hHeld => ?_)
            · exact hSB.out _ HT1.out.b
            clear hK K
            (try simp only [Act.put, List.setIfInBounds_toArray, List.set_cons_zero, List.set_cons_succ])
            have HT0 := HT1
            clear HT1
            refine wpAnyH_take (i := 9) (oi := _) (v := ?_) rfl (by kernel_rfl) (by kernel_rfl) (by kernel_rfl) (fun _ _ _ h => h) (Or.inl ⟨by rfl, ?_⟩) (by assumption) ?_
            rotate_left
            · intro w hSw
              (try dsimp only at hSw)
              first | (go_simp; done) | (go_simp; with_reducible rfl)
            (try simp only [Act.put, List.setIfInBounds_toArray, List.set_cons_zero, List.set_cons_succ])
            refine wpAnyH_ready (rs := [11]) (by kernel_rfl) (by simp) ?_
            refine AllReadyH.cons (o := _) rfl (fun K hK => ?_) AllReadyH.nil
            go_simp
            refine hK.out _ _ hHeld (fun hHeld => ?_)
            clear hK K
            (try simp only [Act.put, List.setIfInBounds_toArray, List.set_cons_zero, List.set_cons_succ])
            refine wpAnyH_done (by kernel_rfl) ?_ _
            show Oper.wp Try.prog _ _ _ _ _
            obtain ⟨hle7, hg7⟩ := HT0.out.r7 _ rfl
            have q0 : w18.cell? ⟨g, 0, none⟩ = some (.slice none 0 0) := blk_cell hg7 0
            have q1 : w18.cell? ⟨g, 1, none⟩ = some (.int .i64 0) := blk_cell hg7 1
            have q2 : w18.cell? ⟨g, 2, none⟩ = some (.slice none 0 0) := blk_cell hg7 2
            have p0 := blk_frozen hg7 0
            have p1 := blk_frozen hg7 1
            have p2 := blk_frozen hg7 2
            clear hHeld hle7 hg7
            go_simp
            refine NoPanic.normal ?_
            clear q0 q1 q2 p0 p1 p2
            go_step
            go_step
            go_meet
            exact ⟨g, _, _, rfl, ⟨told_met HB2.out.1 HB2.out.2 (by have q := HT0.out; rw [List.length_append] at q; exact q)⟩⟩
      · skip
        refine R_append_rows_law (Kd.int .i64) (Rr := (Kd.int .i64).K w13) (w0 := w2) w2.heap.size rfl (.tmp 13) (.tmp 17) 27 3 (.int .i64 0) 8 rfl Try.underlying27 info_int rfl (by decide) (by omega) v ahead ch Ah ch.length chc (fun _ => True) (fun _ => False) (by simp [Act.eval, Act.put]) (by simp [Act.eval, Act.put]) (HT0.out.rv v ahead rfl) (Kd.C_below HCH.out HT0.out.b) (fun _ _ h => h) (fun _ h => h.elim) (fun _ _ => trivial) HT0.out.b HT0.out.b.size (by have := HLA.out; have := HLC.out; omega) ?_
        intro v1 w19 ho hb hg hat
        obtain ⟨A1, cc1, rfl⟩ := Kd.R_slice ho
        have HT1 := Aside0.mk (HT0.out.mk8 ho hg hat)
        clear HT0 ho hb hg hat
        refine hK.out _ _ ?_ (fun hHeld => ?_)
        · exact hSB.out _ HT1.out.b
        clear hK K
        (try simp only [Act.put, List.setIfInBounds_toArray, List.set_cons_zero, List.set_cons_succ])
        have HT0 := HT1
        clear HT1
        refine wpAnyH_ready (rs := [1, 10]) (by kernel_rfl) (by simp) ?_
        refine AllReadyH.cons (o := _) rfl (fun K hK => ?_) (AllReadyH.cons (o := _) rfl (fun K hK => ?_) (AllReadyH.nil))
        · skip
          go_simp
          have HT1 := Aside0.mk (HT0.out.mk1)
          clear HT0
          refine hK.out _ _ ?_ (fun hHeld => ?_)
          · exact hSB.out _ HT1.out.b
          clear hK K
          (try simp only [Act.put, List.setIfInBounds_toArray, List.set_cons_zero, List.set_cons_succ])
          clear hHeld
          have hHeld := hSB.out _ HT1.out.b
          generalize w19.heap.size = b at HT1 ⊢
          generalize w19.alloc (.cells #[.int .i64 first] 3) = w20 at HT1 hHeld ⊢
          have HT0 := HT1
          clear HT1
          refine wpAnyH_take (i := 9) (oi := _) (v := ?_) rfl (by kernel_rfl) (by kernel_rfl) (by kernel_rfl) (fun _ _ _ h => h) (Or.inl ⟨by rfl, ?_⟩) (by assumption) ?_
          rotate_left
          · intro w hSw
            (try dsimp only at hSw)
            first | (go_simp; done) | (go_simp; with_reducible rfl)
          (try simp only [Act.put, List.setIfInBounds_toArray, List.set_cons_zero, List.set_cons_succ])
          refine wpAnyH_ready (rs := [10]) (by kernel_rfl) (by simp) ?_
          refine AllReadyH.cons (o := _) rfl (fun K hK => ?_) (AllReadyH.nil)
          · skip
            go_simp
            have HT1 := Aside0.mk (HT0.out.mk7)
            clear HT0
            refine hK.out _ _ ?_ (fun hHeld => ?_)
            · exact hSB.out _ HT1.out.b
            clear hK K
            (try simp only [Act.put, List.setIfInBounds_toArray, List.set_cons_zero, List.set_cons_succ])
            clear hHeld
            have hHeld := hSB.out _ HT1.out.b
            generalize w20.heap.size = g at HT1 ⊢
            generalize w20.alloc (.cells #[.slice none 0 0, .int .i64 0, .slice none 0 0] 30) = w21 at HT1 hHeld ⊢
            have HT0 := HT1
            clear HT1
            refine wpAnyH_ready (rs := [11]) (by kernel_rfl) (by simp) ?_
            refine AllReadyH.cons (o := _) rfl (fun K hK => ?_) AllReadyH.nil
            go_simp
            refine hK.out _ _ hHeld (fun hHeld => ?_)
            clear hK K
            (try simp only [Act.put, List.setIfInBounds_toArray, List.set_cons_zero, List.set_cons_succ])
            refine wpAnyH_done (by kernel_rfl) ?_ _
            show Oper.wp Try.prog _ _ _ _ _
            obtain ⟨hle7, hg7⟩ := HT0.out.r7 _ rfl
            have q0 : w21.cell? ⟨g, 0, none⟩ = some (.slice none 0 0) := blk_cell hg7 0
            have q1 : w21.cell? ⟨g, 1, none⟩ = some (.int .i64 0) := blk_cell hg7 1
            have q2 : w21.cell? ⟨g, 2, none⟩ = some (.slice none 0 0) := blk_cell hg7 2
            have p0 := blk_frozen hg7 0
            have p1 := blk_frozen hg7 1
            have p2 := blk_frozen hg7 2
            clear hHeld hle7 hg7
            go_simp
            refine NoPanic.normal ?_
            clear q0 q1 q2 p0 p1 p2
            go_step
            go_step
            go_meet
            exact ⟨g, _, _, rfl, ⟨told_met HB2.out.1 HB2.out.2 (by have q := HT0.out; rw [List.length_append] at q; exact q)⟩⟩
        · skip
          go_simp
          have HT1 := Aside0.mk (HT0.out.mk7)
          clear HT0
          refine hK.out _ _ ?_ (fun hHeld => ?_)
          · exact hSB.out _ HT1.out.b
          clear hK K
          (try simp only [Act.put, List.setIfInBounds_toArray, List.set_cons_zero, List.set_cons_succ])
          clear hHeld
          have hHeld := hSB.out _ HT1.out.b
          generalize w19.heap.size = g at HT1 ⊢
          generalize w19.alloc (.cells #[.slice none 0 0, .int .i64 0, .slice none 0 0] 30) = w22 at HT1 hHeld ⊢
          have HT0 := HT1
          clear HT1
          refine wpAnyH_ready (rs := [1]) (by kernel_rfl) (by simp) ?_
          refine AllReadyH.cons (o := _) rfl (fun K hK => ?_) (AllReadyH.nil)
          · skip
            go_simp
            have HT1 := Aside0.mk (HT0.out.mk1)
            clear HT0
            refine hK.out _ _ ?_ (fun hHeld => ?_)
            · exact hSB.out _ HT1.out.b
            clear hK K
            (try simp only [Act.put, List.setIfInBounds_toArray, List.set_cons_zero, List.set_cons_succ])
            clear hHeld
            have hHeld := hSB.out _ HT1.out.b
            generalize w22.heap.size = b at HT1 ⊢
            generalize w22.alloc (.cells #[.int .i64 first] 3) = w23 at HT1 hHeld ⊢
            have HT0 := HT1
            clear HT1
            refine wpAnyH_take (i := 9) (oi := _) (v := ?_) rfl (by kernel_rfl) (by kernel_rfl) (by kernel_rfl) (fun _ _ _ h => h) (Or.inl ⟨by rfl, ?_⟩) (by assumption) ?_
            rotate_left
            · intro w hSw
              (try dsimp only at hSw)
              first | (go_simp; done) | (go_simp; with_reducible rfl)
            (try simp only [Act.put, List.setIfInBounds_toArray, List.set_cons_zero, List.set_cons_succ])
            refine wpAnyH_ready (rs := [11]) (by kernel_rfl) (by simp) ?_
            refine AllReadyH.cons (o := _) rfl (fun K hK => ?_) AllReadyH.nil
            go_simp
            refine hK.out _ _ hHeld (fun hHeld => ?_)
            clear hK K
            (try simp only [Act.put, List.setIfInBounds_toArray, List.set_cons_zero, List.set_cons_succ])
            refine wpAnyH_done (by kernel_rfl) ?_ _
            show Oper.wp Try.prog _ _ _ _ _
            obtain ⟨hle7, hg7⟩ := HT0.out.r7 _ rfl
            have q0 : w23.cell? ⟨g, 0, none⟩ = some (.slice none 0 0) := blk_cell hg7 0
            have q1 : w23.cell? ⟨g, 1, none⟩ = some (.int .i64 0) := blk_cell hg7 1
            have q2 : w23.cell? ⟨g, 2, none⟩ = some (.slice none 0 0) := blk_cell hg7 2
            have p0 := blk_frozen hg7 0
            have p1 := blk_frozen hg7 1
            have p2 := blk_frozen hg7 2
            clear hHeld hle7 hg7
            go_simp
            refine NoPanic.normal ?_
            clear q0 q1 q2 p0 p1 p2
            go_step
            go_step
            go_meet
            exact ⟨g, _, _, rfl, ⟨told_met HB2.out.1 HB2.out.2 (by have q := HT0.out; rw [List.length_append] at q; exact q)⟩⟩
      · skip
        go_simp
        have HT1 := Aside0.mk (HT0.out.mk7)
        clear HT0
        refine hK.out _ _ ?_ (fun hHeld => ?_)
        · exact hSB.out _ HT1.out.b
        clear hK K
        (try simp only [Act.put, List.setIfInBounds_toArray, List.set_cons_zero, List.set_cons_succ])
        clear hHeld
        have hHeld := hSB.out _ HT1.out.b
        generalize w13.heap.size = g at HT1 ⊢
        generalize w13.alloc (.cells #[.slice none 0 0, .int .i64 0, .slice none 0 0] 30) = w24 at HT1 hHeld ⊢
        have HT0 := HT1
        clear HT1
        refine wpAnyH_ready (rs := [1, 8]) (by kernel_rfl) (by simp) ?_
        refine AllReadyH.cons (o := _) rfl (fun K hK => ?_) (AllReadyH.cons (o := _) rfl (fun K hK => ?_) (AllReadyH.nil))
        · skip
          go_simp
          have HT1 := Aside0.mk (HT0.out.mk1)
          clear HT0
          refine hK.out _ _ ?_ (fun hHeld => ?_)
          · exact hSB.out _ HT1.out.b
          clear hK K
          (try simp only [Act.put, List.setIfInBounds_toArray, List.set_cons_zero, List.set_cons_succ])
          clear hHeld
          have hHeld := hSB.out _ HT1.out.b
          generalize w24.heap.size = b at HT1 ⊢
          generalize w24.alloc (.cells #[.int .i64 first] 3) = w25 at HT1 hHeld ⊢
          have HT0 := HT1
          clear HT1
          refine wpAnyH_ready (rs := [8]) (by kernel_rfl) (by simp) ?_
          refine AllReadyH.cons (o := _) rfl (fun K hK => ?_) (AllReadyH.nil)
          · skip
            refine R_append_rows_law (Kd.int .i64) (Rr := (Kd.int .i64).K w25) (w0 := w2) w2.heap.size rfl (.tmp 13) (.tmp 17) 27 3 (.int .i64 0) 8 rfl Try.underlying27 info_int rfl (by decide) (by omega) v ahead ch Ah ch.length chc (fun _ => True) (fun _ => False) (by simp [Act.eval, Act.put]) (by simp [Act.eval, Act.put]) (HT0.out.rv v ahead rfl) (Kd.C_below HCH.out HT0.out.b) (fun _ _ h => h) (fun _ h => h.elim) (fun _ _ => trivial) HT0.out.b HT0.out.b.size (by have := HLA.out; have := HLC.out; omega) ?_
            intro v1 w26 ho hb hg hat
            obtain ⟨A1, cc1, rfl⟩ := Kd.R_slice ho
            have HT1 := Aside0.mk (HT0.out.mk8 ho hg hat)
            clear HT0 ho hb hg hat
            refine hK.out _ _ ?_ (fun hHeld => ?_)
            · exact hSB.out _ HT1.out.b
            clear hK K
            (try simp only [Act.put, List.setIfInBounds_toArray, List.set_cons_zero, List.set_cons_succ])
            have HT0 := HT1
            clear HT1
            refine wpAnyH_take (i := 9) (oi := _) (v := ?_) rfl (by kernel_rfl) (by kernel_rfl) (by kernel_rfl) (fun _ _ _ h => h) (Or.inl ⟨by rfl, ?_⟩) (by assumption) ?_
            rotate_left
            · intro w hSw
              (try dsimp only at hSw)
              first | (go_simp; done) | (go_simp; with_reducible rfl)
            (try simp only [Act.put, List.setIfInBounds_toArray, List.set_cons_zero, List.set_cons_succ])
            refine wpAnyH_ready (rs := [11]) (by kernel_rfl) (by simp) ?_
            refine AllReadyH.cons (o := _) rfl (fun K hK => ?_) AllReadyH.nil
            go_simp
            refine hK.out _ _ hHeld (fun hHeld => ?_)
            clear hK K
            (try simp only [Act.put, List.setIfInBounds_toArray, List.set_cons_zero, List.set_cons_succ])
            refine wpAnyH_done (by kernel_rfl) ?_ _
            show Oper.wp Try.prog _ _ _ _ _
            obtain ⟨hle7, hg7⟩ := HT0.out.r7 _ rfl
            have q0 : w26.cell? ⟨g, 0, none⟩ = some (.slice none 0 0) := blk_cell hg7 0
            have q1 : w26.cell? ⟨g, 1, none⟩ = some (.int .i64 0) := blk_cell hg7 1
            have q2 : w26.cell? ⟨g, 2, none⟩ = some (.slice none 0 0) := blk_cell hg7 2
            have p0 := blk_frozen hg7 0
            have p1 := blk_frozen hg7 1
            have p2 := blk_frozen hg7 2
            clear hHeld hle7 hg7
            go_simp
            refine NoPanic.normal ?_
            clear q0 q1 q2 p0 p1 p2
            go_step
            go_step
            go_meet
            exact ⟨g, _, _, rfl, ⟨told_met HB2.out.1 HB2.out.2 (by have q := HT0.out; rw [List.length_append] at q; exact q)⟩⟩
        · skip
          refine R_append_rows_law (Kd.int .i64) (Rr := (Kd.int .i64).K w24) (w0 := w2) w2.heap.size rfl (.tmp 13) (.tmp 17) 27 3 (.int .i64 0) 8 rfl Try.underlying27 info_int rfl (by decide) (by omega) v ahead ch Ah ch.length chc (fun _ => True) (fun _ => False) (by simp [Act.eval, Act.put]) (by simp [Act.eval, Act.put]) (HT0.out.rv v ahead rfl) (Kd.C_below HCH.out HT0.out.b) (fun _ _ h => h) (fun _ h => h.elim) (fun _ _ => trivial) HT0.out.b HT0.out.b.size (by have := HLA.out; have := HLC.out; omega) ?_
          intro v1 w27 ho hb hg hat
          obtain ⟨A1, cc1, rfl⟩ := Kd.R_slice ho
          have HT1 := Aside0.mk (HT0.out.mk8 ho hg hat)
          clear HT0 ho hb hg hat
          refine hK.out _ _ ?_ (fun hHeld => ?_)
          · exact hSB.out _ HT1.out.b
          clear hK K
          (try simp only [Act.put, List.setIfInBounds_toArray, List.set_cons_zero, List.set_cons_succ])
          have HT0 := HT1
          clear HT1
          refine wpAnyH_ready (rs := [1]) (by kernel_rfl) (by simp) ?_
          refine AllReadyH.cons (o := _) rfl (fun K hK => ?_) (AllReadyH.nil)
          · skip
            go_simp
            have HT1 := Aside0.mk (HT0.out.mk1)
            clear HT0
            refine hK.out _ _ ?_ (fun hHeld => ?_)
            · exact hSB.out _ HT1.out.b
            clear hK K
            (try simp only [Act.put, List.setIfInBounds_toArray, List.set_cons_zero, List.set_cons_succ])
            clear hHeld
            have hHeld := hSB.out _ HT1.out.b
            generalize w27.heap.size = b at HT1 ⊢
            generalize w27.alloc (.cells #[.int .i64 first] 3) = w28 at HT1 hHeld ⊢
            have HT0 := HT1
            clear HT1
            refine wpAnyH_take (i := 9) (oi := _) (v := ?_) rfl (by kernel_rfl) (by kernel_rfl) (by kernel_rfl) (fun _ _ _ h => h) (Or.inl ⟨by rfl, ?_⟩) (by assumption) ?_
            rotate_left
            · intro w hSw
              (try dsimp only at hSw)
              first | (go_simp; done) | (go_simp; with_reducible rfl)
            (try simp only [Act.put, List.setIfInBounds_toArray, List.set_cons_zero, List.set_cons_succ])
            refine wpAnyH_ready (rs := [11]) (by kernel_rfl) (by simp) ?_
            refine AllReadyH.cons (o := _) rfl (fun K hK => ?_) AllReadyH.nil
            go_simp
            refine hK.out _ _ hHeld (fun hHeld => ?_)
            clear hK K
            (try simp only [Act.put, List.setIfInBounds_toArray, List.set_cons_zero, List.set_cons_succ])
            refine wpAnyH_done (by kernel_rfl) ?_ _
            show Oper.wp Try.prog _ _ _ _ _
            obtain ⟨hle7, hg7⟩ := HT0.out.r7 _ rfl
            have q0 : w28.cell? ⟨g, 0, none⟩ = some (.slice none 0 0) := blk_cell hg7 0
            have q1 : w28.cell? ⟨g, 1, none⟩ = some (.int .i64 0) := blk_cell hg7 1
            have q2 : w28.cell? ⟨g, 2, none⟩ = some (.slice none 0 0) := blk_cell hg7 2
            have p0 := blk_frozen hg7 0
            have p1 := blk_frozen hg7 1
            have p2 := blk_frozen hg7 2
            clear hHeld hle7 hg7
            go_simp
            refine NoPanic.normal ?_
            clear q0 q1 q2 p0 p1 p2
            go_step
            go_step
            go_meet
            exact ⟨g, _, _, rfl, ⟨told_met HB2.out.1 HB2.out.2 (by have q := HT0.out; rw [List.length_append] at q; exact q)⟩⟩
    · skip
      go_simp
      have HT1 := Aside0.mk (HT0.out.mk7)
      clear HT0
      refine hK.out _ _ ?_ (fun hHeld => ?_)
      · exact hSB.out _ HT1.out.b
      clear hK K
      (try simp only [Act.put, List.setIfInBounds_toArray, List.set_cons_zero, List.set_cons_succ])
      clear hHeld
      have hHeld := hSB.out _ HT1.out.b
      generalize w3.heap.size = g at HT1 ⊢
      generalize w3.alloc (.cells #[.slice none 0 0, .int .i64 0, .slice none 0 0] 30) = w29 at HT1 hHeld ⊢
      have HT0 := HT1
      clear HT1
      refine wpAnyH_ready (rs := [1, 3]) (by kernel_rfl) (by simp) ?_
      refine AllReadyH.cons (o := _) rfl (fun K hK => ?_) (AllReadyH.cons (o := _) rfl (fun K hK => ?_) (AllReadyH.nil))
      · skip
        go_simp
        have HT1 := Aside0.mk (HT0.out.mk1)
        clear HT0
        refine hK.out _ _ ?_ (fun hHeld => ?_)
        · exact hSB.out _ HT1.out.b
        clear hK K
        (try simp only [Act.put, List.setIfInBounds_toArray, List.set_cons_zero, List.set_cons_succ])
        clear hHeld
        have hHeld := hSB.out _ HT1.out.b
        generalize w29.heap.size = b at HT1 ⊢
        generalize w29.alloc (.cells #[.int .i64 first] 3) = w30 at HT1 hHeld ⊢
        have HT0 := HT1
        clear HT1
        refine wpAnyH_ready (rs := [3]) (by kernel_rfl) (by simp) ?_
        refine AllReadyH.cons (o := _) rfl (fun K hK => ?_) (AllReadyH.nil)
        · skip
          go_simp
          go_at_call 71
          refine (clone_ints A2 c2 ahead _ (Kd.C_below HC2.out HT0.out.b) HLA.out).mono ?_
          rintro e w31 ⟨v, rfl, hv, hbv⟩
          have HT1 := Aside0.mk (HT0.out.mk3 hv hbv)
          clear HT0 hv hbv
          (try go_wp2_with fail)
          refine hK.out _ _ ?_ (fun hHeld => ?_)
          · exact hSB.out _ HT1.out.b
          clear hK K
          (try simp only [Act.put, List.setIfInBounds_toArray, List.set_cons_zero, List.set_cons_succ])
          have HT0 := HT1
          clear HT1
          refine wpAnyH_ready (rs := [8]) (by kernel_rfl) (by simp) ?_
          refine AllReadyH.cons (o := _) rfl (fun K hK => ?_) (AllReadyH.nil)
          · skip
            refine R_append_rows_law (Kd.int .i64) (Rr := (Kd.int .i64).K w31) (w0 := w2) w2.heap.size rfl (.tmp 13) (.tmp 17) 27 3 (.int .i64 0) 8 rfl Try.underlying27 info_int rfl (by decide) (by omega) v ahead ch Ah ch.length chc (fun _ => True) (fun _ => False) (by simp [Act.eval, Act.put]) (by simp [Act.eval, Act.put]) (HT0.out.rv v ahead rfl) (Kd.C_below HCH.out HT0.out.b) (fun _ _ h => h) (fun _ h => h.elim) (fun _ _ => trivial) HT0.out.b HT0.out.b.size (by have := HLA.out; have := HLC.out; omega) ?_
            intro v1 w32 ho hb hg hat
            obtain ⟨A1, cc1, rfl⟩ := Kd.R_slice ho
            have HT1 := Aside0.mk (HT0.out.mk8 ho hg hat)
            clear HT0 ho hb hg hat
            refine hK.out _ _ ?_ (fun hHeld => ?_)
            · exact hSB.out _ HT1.out.b
            clear hK K
            (try simp only [Act.put, List.setIfInBounds_toArray, List.set_cons_zero, List.set_cons_succ])
            have HT0 := HT1
            clear HT1
            refine wpAnyH_take (i := 9) (oi := _) (v := ?_) rfl (by kernel_rfl) (by kernel_rfl) (by kernel_rfl) (fun _ _ _ h => h) (Or.inl ⟨by rfl, ?_⟩) (by assumption) ?_
            rotate_left
            · intro w hSw
              (try dsimp only at hSw)
              first | (go_simp; done) | (go_simp; with_reducible rfl)
            (try simp only [Act.put, List.setIfInBounds_toArray, List.set_cons_zero, List.set_cons_succ])
            refine wpAnyH_ready (rs := [11]) (by kernel_rfl) (by simp) ?_
            refine AllReadyH.cons (o := _) rfl (fun K hK => ?_) AllReadyH.nil
            go_simp
            refine hK.out _ _ hHeld (fun hHeld => ?_)
            clear hK K
            (try simp only [Act.put, List.setIfInBounds_toArray, List.set_cons_zero, List.set_cons_succ])
            refine wpAnyH_done (by kernel_rfl) ?_ _
            show Oper.wp Try.prog _ _ _ _ _
            obtain ⟨hle7, hg7⟩ := HT0.out.r7 _ rfl
            have q0 : w32.cell? ⟨g, 0, none⟩ = some (.slice none 0 0) := blk_cell hg7 0
            have q1 : w32.cell? ⟨g, 1, none⟩ = some (.int .i64 0) := blk_cell hg7 1
            have q2 : w32.cell? ⟨g, 2, none⟩ = some (.slice none 0 0) := blk_cell hg7 2
            have p0 := blk_frozen hg7 0
            have p1 := blk_frozen hg7 1
            have p2 := blk_frozen hg7 2
            clear hHeld hle7 hg7
            go_simp
            refine NoPanic.normal ?_
            clear q0 q1 q2 p0 p1 p2
            go_step
            go_step
            go_meet
            exact ⟨g, _, _, rfl, ⟨told_met HB2.out.1 HB2.out.2 (by have q := HT0.out; rw [List.length_append] at q; exact q)⟩⟩
      · skip
        go_simp
        go_at_call 71
        refine (clone_ints A2 c2 ahead _ (Kd.C_below HC2.out HT0.out.b) HLA.out).mono ?_
        rintro e w33 ⟨v, rfl, hv, hbv⟩
        have HT1 := Aside0.mk (HT0.out.mk3 hv hbv)
        clear HT0 hv hbv
        (try go_wp2_with fail)
        refine hK.out _ _ ?_ (fun hHeld => ?_)
        · exact hSB.out _ HT1.out.b
        clear hK K
        (try simp only [Act.put, List.setIfInBounds_toArray, List.set_cons_zero, List.set_cons_succ])
        have HT0 := HT1
        clear HT1
        refine wpAnyH_ready (rs := [1, 8]) (by kernel_rfl) (by simp) ?_
        refine AllReadyH.cons (o := _) rfl (fun K hK => ?_) (AllReadyH.cons (o := _) rfl (fun K hK => ?_) (AllReadyH.nil))
        · skip
          go_simp
          have HT1 := Aside0.mk (HT0.out.mk1)
          clear HT0
          refine hK.out _ _ ?_ (fun hHeld => ?_)
          · exact hSB.out _ HT1.out.b
          clear hK K
          (try simp only [Act.put, List.setIfInBounds_toArray, List.set_cons_zero, List.set_cons_succ])
          clear hHeld
          have hHeld := hSB.out _ HT1.out.b
          generalize w33.heap.size = b at HT1 ⊢
          generalize w33.alloc (.cells #[.int .i64 first] 3) = w34 at HT1 hHeld ⊢
          have HT0 := HT1
          clear HT1
          refine wpAnyH_ready (rs := [8]) (by kernel_rfl) (by simp) ?_
          refine AllReadyH.cons (o := _) rfl (fun K hK => ?_) (AllReadyH.nil)
          · skip
            refine R_append_rows_law (Kd.int .i64) (Rr := (Kd.int .i64).K w34) (w0 := w2) w2.heap.size rfl (.tmp 13) (.tmp 17) 27 3 (.int .i64 0) 8 rfl Try.underlying27 info_int rfl (by decide) (by omega) v ahead ch Ah ch.length chc (fun _ => True) (fun _ => False) (by simp [Act.eval, Act.put]) (by simp [Act.eval, Act.put]) (HT0.out.rv v ahead rfl) (Kd.C_below HCH.out HT0.out.b) (fun _ _ h => h) (fun _ h => h.elim) (fun _ _ => trivial) HT0.out.b HT0.out.b.size (by have := HLA.out; have := HLC.out; omega) ?_
            intro v1 w35 ho hb hg hat
            obtain ⟨A1, cc1, rfl⟩ := Kd.R_slice ho
            have HT1 := Aside0.mk (HT0.out.mk8 ho hg hat)
            clear HT0 ho hb hg hat
            refine hK.out _ _ ?_ (fun hHeld => ?_)
            · exact hSB.out _ HT1.out.b
            clear hK K
            (try simp only [Act.put, List.setIfInBounds_toArray, List.set_cons_zero, List.set_cons_succ])
            have HT0 := HT1
            clear HT1
            refine wpAnyH_take (i := 9) (oi := _) (v := ?_) rfl (by kernel_rfl) (by kernel_rfl) (by kernel_rfl) (fun _ _ _ h => h) (Or.inl ⟨by rfl, ?_⟩) (by assumption) ?_
            rotate_left
            · intro w hSw
              (try dsimp only at hSw)
              first | (go_simp; done) | (go_simp; with_reducible rfl)
            (try simp only [Act.put, List.setIfInBounds_toArray, List.set_cons_zero, List.set_cons_succ])
            refine wpAnyH_ready (rs := [11]) (by kernel_rfl) (by simp) ?_
            refine AllReadyH.cons (o := _) rfl (fun K hK => ?_) AllReadyH.nil
            go_simp
            refine hK.out _ _ hHeld (fun hHeld => ?_)
            clear hK K
            (try simp only [Act.put, List.setIfInBounds_toArray, List.set_cons_zero, List.set_cons_succ])
            refine wpAnyH_done (by kernel_rfl) ?_ _
            show Oper.wp Try.prog _ _ _ _ _
            obtain ⟨hle7, hg7⟩ := HT0.out.r7 _ rfl
            have q0 : w35.cell? ⟨g, 0, none⟩ = some (.slice none 0 0) := blk_cell hg7 0
            have q1 : w35.cell? ⟨g, 1, none⟩ = some (.int .i64 0) := blk_cell hg7 1
            have q2 : w35.cell? ⟨g, 2, none⟩ = some (.slice none 0 0) := blk_cell hg7 2
            have p0 := blk_frozen hg7 0
            have p1 := blk_frozen hg7 1
            have p2 := blk_frozen hg7 2
            clear hHeld hle7 hg7
            go_simp
            refine NoPanic.normal ?_
            clear q0 q1 q2 p0 p1 p2
            go_step
            go_step
            go_meet
            exact ⟨g, _, _, rfl, ⟨told_met HB2.out.1 HB2.out.2 (by have q := HT0.out; rw [List.length_append] at q; exact q)⟩⟩
        · skip
          refine R_append_rows_law (Kd.int .i64) (Rr := (Kd.int .i64).K w33) (w0 := w2) w2.heap.size rfl (.tmp 13) (.tmp 17) 27 3 (.int .i64 0) 8 rfl Try.underlying27 info_int rfl (by decide) (by omega) v ahead ch Ah ch.length chc (fun _ => True) (fun _ => False) (by simp [Act.eval, Act.put]) (by simp [Act.eval, Act.put]) (HT0.out.rv v ahead rfl) (Kd.C_below HCH.out HT0.out.b) (fun _ _ h => h) (fun _ h => h.elim) (fun _ _ => trivial) HT0.out.b HT0.out.b.size (by have := HLA.out; have := HLC.out; omega) ?_
          intro v1 w36 ho hb hg hat
          obtain ⟨A1, cc1, rfl⟩ := Kd.R_slice ho
          have HT1 := Aside0.mk (HT0.out.mk8 ho hg hat)
          clear HT0 ho hb hg hat
          refine hK.out _ _ ?_ (fun hHeld => ?_)
          · exact hSB.out _ HT1.out.b
          clear hK K
          (try simp only [Act.put, List.setIfInBounds_toArray, List.set_cons_zero, List.set_cons_succ])
          have HT0 := HT1
          clear HT1
          refine wpAnyH_ready (rs := [1]) (by kernel_rfl) (by simp) ?_
          refine AllReadyH.cons (o := _) rfl (fun K hK => ?_) (AllReadyH.nil)
          · skip
            go_simp
            have HT1 := Aside0.mk (HT0.out.mk1)
            clear HT0
            refine hK.out _ _ ?_ (fun hHeld => ?_)
            · exact hSB.out _ HT1.out.b
            clear hK K
            (try simp only [Act.put, List.setIfInBounds_toArray, List.set_cons_zero, List.set_cons_succ])
            clear hHeld
            have hHeld := hSB.out _ HT1.out.b
            generalize w36.heap.size = b at HT1 ⊢
            generalize w36.alloc (.cells #[.int .i64 first] 3) = w37 at HT1 hHeld ⊢
            have HT0 := HT1
            clear HT1
            refine wpAnyH_take (i := 9) (oi := _) (v := ?_) rfl (by kernel_rfl) (by kernel_rfl) (by kernel_rfl) (fun _ _ _ h => h) (Or.inl ⟨by rfl, ?_⟩) (by assumption) ?_
            rotate_left
            · intro w hSw
              (try dsimp only at hSw)
              first | (go_simp; done) | (go_simp; with_reducible rfl)
            (try simp only [Act.put, List.setIfInBounds_toArray, List.set_cons_zero, List.set_cons_succ])
            refine wpAnyH_ready (rs := [11]) (by kernel_rfl) (by simp) ?_
            refine AllReadyH.cons (o := _) rfl (fun K hK => ?_) AllReadyH.nil
            go_simp
            refine hK.out _ _ hHeld (fun hHeld => ?_)
            clear hK K
            (try simp only [Act.put, List.setIfInBounds_toArray, List.set_cons_zero, List.set_cons_succ])
            refine wpAnyH_done (by kernel_rfl) ?_ _
            show Oper.wp Try.prog _ _ _ _ _
            obtain ⟨hle7, hg7⟩ := HT0.out.r7 _ rfl
            have q0 : w37.cell? ⟨g, 0, none⟩ = some (.slice none 0 0) := blk_cell hg7 0
            have q1 : w37.cell? ⟨g, 1, none⟩ = some (.int .i64 0) := blk_cell hg7 1
            have q2 : w37.cell? ⟨g, 2, none⟩ = some (.slice none 0 0) := blk_cell hg7 2
            have p0 := blk_frozen hg7 0
            have p1 := blk_frozen hg7 1
            have p2 := blk_frozen hg7 2
            clear hHeld hle7 hg7
            go_simp
            refine NoPanic.normal ?_
            clear q0 q1 q2 p0 p1 p2
            go_step
            go_step
            go_meet
            exact ⟨g, _, _, rfl, ⟨told_met HB2.out.1 HB2.out.2 (by have q := HT0.out; rw [List.length_append] at q; exact q)⟩⟩
  case rest =>
    clear HC2 HCH hSB HB2 HS2 HC20
    obtain ⟨g, v0, v2, rfl, HI0⟩ := hcut
    have HT1 : Aside0 (Tr wc L tb cs ms) := ⟨HT.out.below (below_L HI0.out.b HT.out.le)⟩
    have HS1 : Aside0 (Se wc ok sb tb s ch) := ⟨HSE.out.below HI0.out.b⟩
    go_wp2_with (first | (go_at_call 58; refine (an_falling L tb sb cs ms _ s ch _ HT1.out HS1.out HF.out HW.out.lm).mono ?_; rintro e w2 ⟨v, rfl, hv2, hb2⟩; obtain ⟨A3, c3, rfl⟩ := Kd.R_slice hv2; have H2 := Aside0.mk (And.intro hv2 hb2); clear hv2 hb2))
    have hlen : (fallL ms s).length ≤ 4194304 := by
      have h1 := (fallL_perm ms s).length_eq
      have h2 := len_of_falses HS.out.map.nodup HF.out
      have h3 := HW.out.lm
      omega
    have HLW : Aside0 (∀ x ∈ fallL ms s, isFalseB ms x = true ∧ w64 x) := ⟨fun x hx => by
      have h1 := (fallL_perm ms s).mem_iff.1 hx
      exact ⟨HF.out x h1, HXW.out x h1⟩⟩
    obtain ⟨l, hl⟩ : ∃ l, l = fallL ms s := ⟨_, rfl⟩
    rw [← hl] at H2 HLW hlen ⊢
    have HLE := Aside0.mk hl
    clear hl
    have HJ0 : Aside0 (ToldJ w w2 g v0 v2 (.slice A3 l.length c3) [first] (ahead ++ ch) l 0) := ⟨⟨HI0.out.step H2.out.2, Kd.R_mono (Kd.R_lower (Kd.R_bound H2.out.1) HI0.out.b.size) (fun k hk e => by have h1 := Kd.R_lt HI0.out.r0 k e.symm; have h2 := hk.2.1; omega)⟩⟩
    clear HI0 H2
    go_loopg [23] l.length (fun kq v23 w' => ∃ (i : Nat) (v0' : Value), v23 = .int .i64 i ∧ i + kq = l.length ∧ Aside0 (ToldJ w w' g v0' v2 (.slice A3 l.length c3) (first :: (l.take i).filter fun x => x ≠ first) (ahead ++ ch) l (mostL ms ((l.take i).filter fun x => x ≠ first))))
    case atStart => exact ⟨0, v0, rfl, by omega, HJ0⟩
    case round =>
      obtain ⟨i, v0', rfl, hik, HJ⟩ := hrel
      clear HJ0
      cases gk with
      | zero =>
        obtain rfl : i = l.length := by omega
        have hj := HJ.out
        rw [List.take_length] at hj
        have hrl : (l.filter fun x => decide (x ≠ first)) = restL ms s first := by unfold restL; rw [HLE.out]
        rw [hrl] at hj
        clear HJ hrl
        obtain ⟨bk, hbk⟩ : ∃ b, b = mostL ms (restL ms s first) := ⟨_, rfl⟩
        obtain ⟨f, hfe⟩ : ∃ f, f = restL ms s first := ⟨_, rfl⟩
        rw [← hbk, ← hfe] at hj
        have HBK := Aside0.mk hbk
        have HFE := Aside0.mk hfe
        have HJ := Aside0.mk hj
        have q0 : wr.cell? ⟨g, 0, none⟩ = some v0' := blk_cell hj.t.blk 0
        have q1 : wr.cell? ⟨g, 1, none⟩ = some (.int .i64 bk) := blk_cell hj.t.blk 1
        have q2 : wr.cell? ⟨g, 2, none⟩ = some v2 := blk_cell hj.t.blk 2
        have p0 : wr.cell? ⟨w.heap.size, 0, none⟩ = some (.slice none 0 0) := blk_cell hj.t.res 0
        have p1 : wr.cell? ⟨w.heap.size, 1, none⟩ = some (.int .i64 0) := blk_cell hj.t.res 1
        have p2 : wr.cell? ⟨w.heap.size, 2, none⟩ = some (.slice none 0 0) := blk_cell hj.t.res 2
        have r0 := blk_frozen hj.t.res 0
        have r1 := blk_frozen hj.t.res 1
        have r2 := blk_frozen hj.t.res 2
        obtain ⟨A0, c0, rfl⟩ := Kd.R_slice hj.t.r0
        obtain ⟨Ac, cc, rfl⟩ := Kd.R_slice hj.t.r2
        clear hj hbk hfe
        go_wp2
        have hfin := told_end HJ.out
        rw [List.length_append] at hfin
        generalize ((wr.setCell ⟨w.heap.size, 0, none⟩ (.slice A0 (f.length + 1) c0)).setCell ⟨w.heap.size, 1, none⟩ (.int .i64 bk)).setCell ⟨w.heap.size, 2, none⟩ (.slice Ac (ahead.length + ch.length) cc) = w9 at hfin ⊢
        have k0 := blk_cell hfin.1 0
        have k1 := blk_cell hfin.1 1
        have k2 := blk_cell hfin.1 2
        rw [← HBK.out, ← HFE.out]
        refine bodyPost_ret (v := .agg #[.slice A0 (f.length + 1) c0, .int .i64 bk, .slice Ac (ahead.length + ch.length) cc]) (by simp [results, Try.results41, go_sem, k0, k1, k2]) rfl ⟨.slice A0 (f.length + 1) c0, .slice Ac (ahead.length + ch.length) cc, rfl, hfin.2.1, hfin.2.2.1, hfin.2.2.2⟩
      | succ k1 =>
        have hlt : i < l.length := by omega
        have hC := (Kd.R_reads' HJ.out.f).2.2
        obtain ⟨ad, rfl, hx⟩ := Kd.at_int hC (i : Int) (by omega) (by omega)
        rw [Int.toNat_natCast] at hx
        have hxm := HLW.out _ (rdm hlt)
        have htk := take_rd hlt
        obtain ⟨x, hxq⟩ : ∃ x, x = rd l (i : Int) := ⟨_, rfl⟩
        rw [← hxq] at hx hxm htk
        have HX := Aside0.mk hxm
        have HTK := Aside0.mk htk
        clear hC hxm hxq htk
        by_cases h0 : x = first
        · have h01 : (x != first) = false := by simpa using h0
          have H0 := Aside0.mk h0
          clear h0
          go_wp2
          go_roundg k1
          case measure => omega
          case rel =>
            refine ⟨i + 1, v0', by go_num, by omega, ?_⟩
            rw [HTK.out, List.filter_append]
            have : ([x].filter fun x => decide (x ≠ first)) = [] := by simp [H0.out]
            rw [this, List.append_nil]
            exact HJ
        · have h01 : (x != first) = true := by simpa using h0
          have H0 := Aside0.mk h0
          have HFL : Aside0 ((l.take (i + 1)).filter (fun x => decide (x ≠ first)) = (l.take i).filter (fun x => decide (x ≠ first)) ++ [x]) := ⟨by
            rw [HTK.out, List.filter_append]
            have : ([x].filter fun x => decide (x ≠ first)) = [x] := by simp [h0]
            rw [this]⟩
          clear h0
          obtain ⟨f, hfe⟩ : ∃ f, f = (l.take i).filter (fun x => decide (x ≠ first)) := ⟨_, rfl⟩
          have hfl : f.length ≤ 4194304 := by rw [hfe]; have := List.length_filter_le (fun x => decide (x ≠ first)) (l.take i); rw [List.length_take] at this; omega
          rw [← hfe] at HJ HFL
          have HFLN := Aside0.mk hfl
          clear hfe hfl
          obtain ⟨bk, hbk⟩ : ∃ b, b = mostL ms f := ⟨_, rfl⟩
          rw [← hbk] at HJ
          have HBK := Aside0.mk hbk
          clear hbk
          obtain ⟨A0, c0, rfl⟩ := Kd.R_slice HJ.out.t.r0
          have c0f : wr.cell? ⟨g, 0, none⟩ = some (.slice A0 (first :: f).length c0) := blk_cell HJ.out.t.blk 0
          go_wp2_with (at_builtin; refine Kd.R_append (Kd.int .i64) (w0 := w) w.heap.size rfl (.tmp 31) (.tmp 33) 28 3 (.int .i64 0) 8 rfl Try.underlying28 info_int rfl (by decide) (by omega) (.slice A0 (first :: f).length c0) (first :: f) x [.int .i64 x] (fun k => some k ≠ v2.ownBlock ∧ some k ≠ (Value.slice (some ad) l.length c3).ownBlock) (fun _ => False) rfl rfl ?aP (fun _ hk => hk.elim) ?aF ?aO HJ.out.t.b HJ.out.t.b.size ?aL ?_; (case aP => exact rfl); (case aF => exact fun k hk => ⟨fun e => by have := Kd.R_lt HJ.out.t.r2 k e.symm; omega, fun e => by have := Kd.R_lt HJ.out.f k e.symm; omega⟩); (case aO => exact Kd.R_reok rfl HJ.out.t.r0 (fun k e => ⟨fun q => HJ.out.t.r0.1 k e q, fun q => HJ.out.f.1 k q.symm e.symm⟩)); (case aL => have := HFLN.out; simp only [List.length_cons]; omega); intro v5 w5 ho hb hg hat; obtain ⟨A5, c5, rfl⟩ := Kd.R_slice ho; rw [show ((first :: f) ++ [x]).length = f.length + 1 + 1 from by simp] at ho hat; have HO5 := Aside0.mk ho; have HG5 := Aside0.mk hg; have k0 : w5.cell? ⟨g, 0, none⟩ = some (.slice A0 (first :: f).length c0) := blk_cell ((hg.block _ (blk_lt HJ.out.t.blk) (Kd.R_ne HJ.out.t.r0 HJ.out.t.blk (by decide))).trans HJ.out.t.blk) 0; have k0f := blk_frozen ((hg.block _ (blk_lt HJ.out.t.blk) (Kd.R_ne HJ.out.t.r0 HJ.out.t.blk (by decide))).trans HJ.out.t.blk) 0; clear ho hb hg hat)
          have HJ6 : Aside0 (ToldJ w (w5.setCell ⟨g, 0, none⟩ (.slice A5 (f.length + 1 + 1) c5)) g (.slice A5 (f.length + 1 + 1) c5) v2 (.slice (some ad) l.length c3) ((first :: f) ++ [x]) (ahead ++ ch) l bk) := ⟨HJ.out.put0 HO5.out HG5.out⟩
          clear k0 k0f HO5 HG5 c0f
          generalize w5.setCell ⟨g, 0, none⟩ (.slice A5 (f.length + 1 + 1) c5) = w6 at HJ6 ⊢
          have HT6 : Aside0 (Tr w6 L tb cs ms) := ⟨HT.out.below (below_L HJ6.out.t.b HT.out.le)⟩
          have hSS : Aside0 (∀ W, Below w6.heap.size w6 W → W.cell? ⟨g, 1, none⟩ = some (.int .i64 bk) ∧ W.cell? ⟨sb, 0, none⟩ = some (.pointer (some ⟨tb, 0, none⟩))) := ⟨fun W hW => ⟨blk_cell ((hW.block _ (blk_lt HJ6.out.t.blk)).trans HJ6.out.t.blk) 1, (HS.out.step (w1 := W) (fun k _ hk => (below_step HJ6.out.t.b hW).block k hk)).c0⟩⟩
          have hfld := fun (a b c : Value) (w : World) => fld1 a b c w
          refine wp_region_noPanic ?_
          refine region_swapN (n := 11) (fun w' => w'.cell? ⟨g, 1, none⟩ = some (.int .i64 bk) ∧ w'.cell? ⟨sb, 0, none⟩ = some (.pointer (some ⟨tb, 0, none⟩))) (by kernel_rfl) rfl rfl rfl rfl (by kernel_rfl) (by kernel_rfl) ?_
          have hHeld := hSS.out w6.drew (below_drew1 (Below.refl _ _))
          simp only [List.setIfInBounds_toArray, List.set_cons_succ, List.set_cons_zero, nopOf]
          refine wpAnyH_take (i := 0) (oi := _) (v := ?_) rfl (by kernel_rfl) (by kernel_rfl) (by kernel_rfl) (fun _ _ _ h => h) (Or.inl ⟨by rfl, ?_⟩) (by assumption) ?_
          rotate_left
          · intro w hSw
            (try dsimp only at hSw)
            first | (go_simp; done) | (go_simp; with_reducible rfl)
          (try simp only [Act.put, List.setIfInBounds_toArray, List.set_cons_zero, List.set_cons_succ])
          refine wpAnyH_take (i := 1) (oi := _) (v := ?_) rfl (by kernel_rfl) (by kernel_rfl) (by kernel_rfl) (fun _ _ _ h => h) (Or.inl ⟨by rfl, ?_⟩) (by assumption) ?_
          rotate_left
          · intro w hSw
            (try dsimp only at hSw)
            first | (go_simp; done) | (go_simp; with_reducible rfl)
          (try simp only [Act.put, List.setIfInBounds_toArray, List.set_cons_zero, List.set_cons_succ])
          refine wpAnyH_take (i := 2) (oi := _) (v := ?_) rfl (by kernel_rfl) (by kernel_rfl) (by kernel_rfl) (fun _ _ _ h => h) (Or.inl ⟨by rfl, ?_⟩) (by assumption) ?_
          rotate_left
          · intro w hSw
            (try dsimp only at hSw)
            first | (go_simp; done) | (go_simp; with_reducible rfl)
          (try simp only [Act.put, List.setIfInBounds_toArray, List.set_cons_zero, List.set_cons_succ])
          refine wpAnyH_take (i := 3) (oi := _) (v := ?_) rfl (by kernel_rfl) (by kernel_rfl) (by kernel_rfl) (fun _ _ _ h => h) (Or.inl ⟨by rfl, ?_⟩) (by assumption) ?_
          rotate_left
          · intro w hSw
            (try dsimp only at hSw)
            first | (go_simp; done) | (go_simp; with_reducible rfl)
          (try simp only [Act.put, List.setIfInBounds_toArray, List.set_cons_zero, List.set_cons_succ])
          refine wpAnyH_take (i := 4) (oi := _) (v := ?_) rfl (by kernel_rfl) (by kernel_rfl) (by kernel_rfl) (fun _ _ _ h => h) (Or.inl ⟨by rfl, ?_⟩) (by assumption) ?_
          rotate_left
          · intro w hSw
            (try dsimp only at hSw)
            first | (go_simp; done) | (go_simp; with_reducible rfl)
          (try simp only [Act.put, List.setIfInBounds_toArray, List.set_cons_zero, List.set_cons_succ])
          refine wpAnyH_take (i := 5) (oi := _) (v := ?_) rfl (by kernel_rfl) (by kernel_rfl) (by kernel_rfl) (fun _ _ _ h => h) (Or.inl ⟨by rfl, ?_⟩) (by assumption) ?_
          rotate_left
          · intro w hSw
            (try dsimp only at hSw)
            first | (go_simp; done) | (go_simp; with_reducible rfl)
          (try simp only [Act.put, List.setIfInBounds_toArray, List.set_cons_zero, List.set_cons_succ])
          refine wpAnyH_take (i := 6) (oi := _) (v := ?_) rfl (by kernel_rfl) (by kernel_rfl) (by kernel_rfl) (fun _ _ _ h => h) (Or.inl ⟨by rfl, ?_⟩) (by assumption) ?_
          rotate_left
          · intro w hSw
            (try dsimp only at hSw)
            first | (go_simp; done) | (go_simp; with_reducible rfl)
          (try simp only [Act.put, List.setIfInBounds_toArray, List.set_cons_zero, List.set_cons_succ])
          refine wpAnyH_ready (rs := [7]) (by kernel_rfl) (by simp) ?_
          refine AllReadyH.cons (o := _) rfl (fun K hK => ?_) AllReadyH.nil
          go_simp
          go_at_call 57
          refine (an_markT L tb cs ms x _ (HT6.out.below (below_L (below_drew1 (Below.refl _ _)) HT6.out.le)) HX.out.2 HX.out.1).mono ?_
          rintro e w7 ⟨rfl, hb7⟩
          have HB7 : Aside0 (Below w6.heap.size w6 w7) := ⟨below_step (below_drew1 (Below.refl _ _)) hb7⟩
          clear hb7
          (try go_wp2_with fail)
          refine hK.out _ _ ?_ (fun hHeld => ?_)
          · exact hSS.out _ HB7.out
          clear hK K
          (try simp only [Act.put, List.setIfInBounds_toArray, List.set_cons_zero, List.set_cons_succ])
          refine wpAnyH_take (i := 8) (oi := _) (v := ?_) rfl (by kernel_rfl) (by kernel_rfl) (by kernel_rfl) (fun _ _ _ h => h) (Or.inl ⟨by rfl, ?_⟩) (by assumption) ?_
          rotate_left
          · intro w hSw
            (try dsimp only at hSw)
            first | (go_simp; done) | (go_simp; with_reducible rfl)
          (try simp only [Act.put, List.setIfInBounds_toArray, List.set_cons_zero, List.set_cons_succ])
          refine wpAnyH_take (i := 9) (oi := _) (v := ?_) rfl (by kernel_rfl) (by kernel_rfl) (by kernel_rfl) (fun _ _ _ h => h) (Or.inl ⟨by rfl, ?_⟩) (by assumption) ?_
          rotate_left
          · intro w hSw
            (try dsimp only at hSw)
            first | (go_simp; done) | (go_simp; with_reducible rfl)
          (try simp only [Act.put, List.setIfInBounds_toArray, List.set_cons_zero, List.set_cons_succ])
          refine wpAnyH_take (i := 10) (oi := _) (v := ?_) rfl (by kernel_rfl) (by kernel_rfl) (by kernel_rfl) (fun _ _ _ h => h) (Or.inl ⟨by rfl, ?_⟩) (by assumption) ?_
          rotate_left
          · intro w hSw
            (try dsimp only at hSw)
            first | (go_simp; done) | (go_simp; with_reducible rfl)
          (try simp only [Act.put, List.setIfInBounds_toArray, List.set_cons_zero, List.set_cons_succ])
          refine wpAnyH_ready (rs := [11]) (by kernel_rfl) (by simp) ?_
          refine AllReadyH.cons (o := _) rfl (fun K hK => ?_) AllReadyH.nil
          go_simp
          refine hK.out _ _ hHeld (fun hHeld => ?_)
          clear hK K
          (try simp only [Act.put, List.setIfInBounds_toArray, List.set_cons_zero, List.set_cons_succ])
          refine wpAnyH_done (by kernel_rfl) ?_ _
          show Oper.wp Try.prog _ _ _ _ _
          have HJ7 : Aside0 (ToldJ w w7 g (.slice A5 (f.length + 1 + 1) c5) v2 (.slice (some ad) l.length c3) ((first :: f) ++ [x]) (ahead ++ ch) l bk) := ⟨HJ6.out.step HB7.out⟩
          have q1 : w7.cell? ⟨g, 1, none⟩ = some (.int .i64 bk) := blk_cell HJ7.out.t.blk 1
          have p1 := blk_frozen HJ7.out.t.blk 1
          clear hHeld hfld
          go_simp
          refine NoPanic.normal ?_
          have HJ8 := Aside0.mk (HJ7.out.put1 (max bk (mkOf ms x).f1))
          clear q1 p1 HJ7 HJ6
          generalize w7.setCell ⟨g, 1, none⟩ (.int .i64 (max bk (mkOf ms x).f1)) = w8 at HJ8 ⊢
          go_wp2
          go_roundg k1
          case measure => omega
          case rel =>
            refine ⟨i + 1, .slice A5 (f.length + 1 + 1) c5, by go_num, by omega, ?_⟩
            rw [HFL.out, mostL_snoc, ← HBK.out]
            exact HJ8
end Go.Proofs.Ytboalbiicmcljaa.PAN
