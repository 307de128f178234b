import Derived.Test.YtocmldppefjbgaaHp15
import Derived.ArgAppend
import Derived.Deep.DeepAppendRoom
import Derived.BigQuiet
import Derived.Deep.QuietTactic
namespace Go.Proofs.Ytocmldppefjbgaa.PHP
open Go.RowKit Go.Proofs.YtocmldppefjbgaaW.PrintWords Go.Proofs.YtocmldppefjbgaaW.PrintLast Go.Proofs.YtocmldppefjbgaaW.PrintMore Go.Proofs.YtocmldppefjbgaaH
set_option linter.unusedVariables false
set_option linter.unusedSimpArgs false
/-! ### rows of which only the form is known -/
/-- A slice of n elements of type e (sz cells each) at the head of a block that is as great as its capacity, from base on. -/
def Shp (e sz base : Nat) (w : World) (v : Value) (n : Nat) : Prop :=
  (v = .slice none 0 0 ∧ n = 0) ∨ ∃ g c cur, v = .slice (some ⟨g, 0, none⟩) n c ∧ base ≤ g ∧ w.heap[g]? = some (.cells cur e (0, 0)) ∧ n ≤ c ∧ c ≤ maxLen ∧ cur.size = c * sz
/-- What keeps each block's form. -/
def Forms (base : Nat) (w w' : World) : Prop := ∀ (g e : Nat) (cur : Array Value), base ≤ g → w.heap[g]? = some (.cells cur e (0, 0)) → ∃ cur', w'.heap[g]? = some (.cells cur' e (0, 0)) ∧ cur'.size = cur.size
theorem Forms.refl (base : Nat) (w : World) : Forms base w w := fun _ _ cur _ h => ⟨cur, h, rfl⟩
theorem Forms.trans {base : Nat} {w w1 w2 : World} (h : Forms base w w1) (h2 : Forms base w1 w2) : Forms base w w2 := fun g e cur hb hg => by
  obtain ⟨c1, h3, h4⟩ := h g e cur hb hg
  obtain ⟨c2, h5, h6⟩ := h2 g e c1 hb h3
  exact ⟨c2, h5, h6.trans h4⟩
theorem Forms.of_below {base : Nat} {w w' : World} (h : Below w.heap.size w w') : Forms base w w' := fun g e cur _ hg => ⟨cur, (h.block g (blk_lt hg)).trans hg, rfl⟩
theorem Forms.set (base : Nat) (w : World) (g j : Nat) (u : Value) : Forms base w (w.setCell ⟨g, j, none⟩ u) := fun k e cur _ hk => by
  by_cases he : k = g
  · subst he
    exact ⟨_, blk_set hk j u, by simp⟩
  · exact ⟨cur, by rw [Below.heap_setCell w ⟨g, j, none⟩ u k he]; exact hk, rfl⟩
theorem Shp.forms {e sz base : Nat} {w w' : World} {v : Value} {n : Nat} (h : Shp e sz base w v n) (hf : Forms base w w') : Shp e sz base w' v n := by
  rcases h with h | ⟨g, c, cur, h1, h2, h3, h4, h5, h6⟩
  · exact .inl h
  · obtain ⟨cur', h7, h8⟩ := hf g e cur h2 h3
    exact .inr ⟨g, c, cur', h1, h2, h7, h4, h5, h8.trans h6⟩
theorem Shp.of_own {e sz base b0 : Nat} {w : World} {v : Value} {n : Nat} {xs : List Value} (h : w.ownsRow base e sz v n xs) (hb : b0 ≤ base) : Shp e sz b0 w v n := by
  rcases h.2 with h | ⟨g, c, cur, h1, h2, h3, h4, h5, h6, _⟩
  · exact .inl h
  · exact .inr ⟨g, c, cur, h1, Nat.le_trans hb h2, h3, h4, h5, h6⟩
theorem Shp.slice {e sz base : Nat} {w : World} {v : Value} {n : Nat} (h : Shp e sz base w v n) : ∃ A c, v = .slice A n c ∧ (0 < n → ∃ g, A = some ⟨g, 0, none⟩ ∧ base ≤ g) := by
  rcases h with ⟨h1, h2⟩ | ⟨g, c, cur, h1, h2, _⟩
  · exact ⟨none, 0, by rw [h1, h2], fun h => by omega⟩
  · exact ⟨_, c, h1, fun _ => ⟨g, rfl, h2⟩⟩
/-- A cell of a row of known form. -/
theorem Shp.cell {e sz base : Nat} {w : World} {g n c : Nat} (h : Shp e sz base w (.slice (some ⟨g, 0, none⟩) n c) n) {j : Nat} (hj : j < n * sz) : ∃ x, w.cell? ⟨g, j, none⟩ = some x ∧ w.frozen? ⟨g, j, none⟩ = false := by
  rcases h with ⟨h1, _⟩ | ⟨g', c', cur, h1, h2, h3, h4, h5, h6⟩
  · cases h1
  · simp only [Value.slice.injEq, Option.some.injEq, Addr.mk.injEq] at h1
    obtain ⟨⟨e1, _⟩, _, e2⟩ := h1
    subst e1 e2
    have hlt : j < cur.size := by rw [h6]; exact Nat.lt_of_lt_of_le hj (Nat.mul_le_mul_right _ h4)
    refine ⟨cur[j], ?_, blk_frozen h3 j⟩
    rw [blk_cell h3 j]
    simp [hlt]
section
variable {P : Program} {ops : Array Oper} {rest : List Oper} {o : Oper} {a : Act} {Q : Exit → Act → World → Prop}
/-- append of one element that lies in a block of its own to a row of which only the form is known. -/
theorem shp_app1 {W : World} {base n c : Nat} {A : Option Addr} {u : Value} (hv : Shp 3 1 base W (.slice A n c) n) (hgd : o.guard = none) (s x : Operand) (t : TypeId) {i0 : TypeInfo} {z : Value}
    (ho : o.op = .call { callee := .builtin .append, args := #[s, x], argTypes := #[t, t] }) (ht : P.underlying t = some (.slice 3)) (hinf : P.info? 3 = some i0) (hz0 : i0.zero = some z) (hz1 : i0.size = 1) (hz2 : i0.bytes = 8) (hz3 : z.cells.size = 1) (hone : u.oneCell' = true)
    (hs : a.eval s = .slice A n c) (hx : a.eval x = .slice (some ⟨W.heap.size, 0, none⟩) 1 1) (hn : n + 1 ≤ 2199023255552) (hbase : base ≤ W.heap.size)
    (hK : ∀ (A' : Option Addr) (c' : Nat) (w' : World), Shp 3 1 base w' (.slice A' (n + 1) c') (n + 1) → W.grownBy w' (Value.slice A n c).ownBlock → ((Value.slice A' (n + 1) c').ownBlock = (Value.slice A n c).ownBlock ∨ ∃ b, (Value.slice A' (n + 1) c').ownBlock = some b ∧ W.heap.size ≤ b) → wpList P ops Q rest (a.put o.dst (.slice A' (n + 1) c')) w') :
    wpList P ops Q (o :: rest) a (W.alloc (.cells #[u] 3)) := by
  obtain ⟨V, hV⟩ : ∃ V, V = W.alloc (.cells #[u] 3) := ⟨_, rfl⟩
  have hB : V.heap[W.heap.size]? = some (.cells #[u] 3 (0, 0)) := by rw [hV]; exact heap_alloc_new W _
  have hal : Below W.heap.size W V := by rw [hV]; exact below_alloc (Below.refl W.heap.size W) _
  have hsz : V.heap.size = W.heap.size + 1 := by rw [hV]; simp
  have hg0 : W.grownBy V (Value.slice A n c).ownBlock := by rw [hV]; exact World.grownBy_alloc W _ _
  rw [← hV]
  have hv' := hv.forms (Forms.of_below hal)
  have hnews : ∀ j v, [u][j]? = some v → V.cell? ((⟨W.heap.size, 0, none⟩ : Addr).add j) = some v := by
    intro j v hj
    rw [addr_at, blk_cell hB j]
    simpa using hj
  have hone' : ∀ v ∈ [u], v.oneCell' = true := fun v hv => by rw [List.mem_singleton.1 hv]; exact hone
  have full : ∀ (ao : Option Addr) (cap : Nat) (olds : List Value), Value.slice A n c = .slice ao n cap → (ao = none → n = 0 ∧ cap = 0) → olds.length = n → (∀ b, ao = some b → ∀ j u, olds[j]? = some u → V.cell? (b.add j) = some u) → cap < n + 1 → wpList P ops Q (o :: rest) a V := by
    intro ao cap olds he hnn hol holds hc
    refine wpList_append_grows V hgd s x t ho 3 i0 z 1 8 ht hinf hz0 hz1 hz2 hz3 (by decide) ao n cap olds (by rw [hs, he]) hnn (by omega) holds ⟨W.heap.size, 0, none⟩ 1 1 [u] hx rfl hnews hone' hc (by simp only [maxLen]; omega) (by omega) ?_
    intro v' w' ho' hg
    have hsh := Shp.of_own ho' (Nat.le_refl _)
    obtain ⟨A', c', rfl, hA⟩ := hsh.slice
    obtain ⟨g', e', hg'⟩ := hA (by omega)
    refine hK A' c' w' (Shp.of_own ho' (by omega)) (World.grownBy.trans hg0 ⟨hg.os, hg.tape, hg.output, hg.size, fun k hk _ => hg.block k hk (by simp)⟩) (.inr ⟨g', by rw [e']; rfl, by omega⟩)
  rcases hv' with ⟨h1, h2⟩ | ⟨g, c', cur, h1, h2, h3, h4, h5, h6⟩
  · exact full none 0 [] (by rw [h1, h2]) (fun _ => ⟨h2, rfl⟩) (by simp [h2]) (fun b hb => by cases hb) (by omega)
  · rw [Nat.mul_one] at h6
    have hown : V.ownsRow base 3 1 (.slice (some ⟨g, 0, none⟩) n c') n (cur.toList.take n) := ⟨by rw [List.length_take, Array.length_toList]; omega, .inr ⟨g, c', cur, rfl, h2, h3, h4, h5, by omega, by rw [Nat.mul_one]⟩⟩
    by_cases hr : n + 1 ≤ c'
    · refine wpList_append_own_spare (w := V) (base := base) hgd s x t ho 3 i0 1 ht hinf hz1 g n c' (cur.toList.take n) (by rw [hs, h1]) hown ⟨W.heap.size, 0, none⟩ 1 1 [u] hx rfl hnews hone' hr ?_
      intro w' ho' hg
      rw [h1] at hg0 hK
      exact hK _ _ w' (Shp.of_own ho' (Nat.le_refl _)) (World.grownBy.trans hg0 hg) (.inl rfl)
    · refine full (some ⟨g, 0, none⟩) c' (cur.toList.take n) h1 (by simp) (by rw [List.length_take, Array.length_toList]; omega) (fun b hb j u hj => ?_) (by omega)
      injection hb with hb
      subst hb
      exact hown.cells (g := g) rfl j u hj
end
theorem Shp.lt {e sz base : Nat} {w : World} {g n c : Nat} (h : Shp e sz base w (.slice (some ⟨g, 0, none⟩) n c) n) : base ≤ g ∧ g < w.heap.size := by
  rcases h with ⟨q, _⟩ | ⟨g2, c2, cur2, q1, q2, q3, _⟩
  · cases q
  · simp only [Value.slice.injEq, Option.some.injEq, Addr.mk.injEq] at q1
    obtain ⟨⟨f1, _⟩, _⟩ := q1
    subst f1
    exact ⟨q2, blk_lt q3⟩
theorem Shp.at_ {e sz base : Nat} {w : World} {A : Option Addr} {n c : Nat} (h : Shp e sz base w (.slice A n c) n) (hn : 0 < n) : ∃ g, A = some ⟨g, 0, none⟩ := by
  rcases h with ⟨q, q2⟩ | ⟨g2, c2, cur2, q1, _⟩
  · omega
  · simp only [Value.slice.injEq] at q1
    exact ⟨g2, q1.1⟩

/-! ### HeapOwn -/
section
variable {ops : Array Oper} {rest : List Oper} {o : Oper} {a : Act} {Q : Exit → Act → World → Prop}
theorem shp_app1i {W : World} {base n c : Nat} {A : Option Addr} {v : Int} (hv : Shp 3 1 base W (.slice A n c) n) (hgd : o.guard = none) (s x : Operand)
    (ho : o.op = .call { callee := .builtin .append, args := #[s, x], argTypes := #[22, 22] }) (hone : (Value.int .i64 v).oneCell' = true)
    (hs : a.eval s = .slice A n c) (hx : a.eval x = .slice (some ⟨W.heap.size, 0, none⟩) 1 1) (hn : n + 1 ≤ 2199023255552) (hbase : base ≤ W.heap.size)
    (hK : ∀ (A' : Option Addr) (c' : Nat) (w' : World), Shp 3 1 base w' (.slice A' (n + 1) c') (n + 1) → W.grownBy w' (Value.slice A n c).ownBlock → ((Value.slice A' (n + 1) c').ownBlock = (Value.slice A n c).ownBlock ∨ ∃ b, (Value.slice A' (n + 1) c').ownBlock = some b ∧ W.heap.size ≤ b) → wpList Try.prog ops Q rest (a.put o.dst (.slice A' (n + 1) c')) w') :
    wpList Try.prog ops Q (o :: rest) a (W.alloc (.cells #[.int .i64 v] 3)) := by
  obtain ⟨i0, hinf, hzz⟩ := Option.map_eq_some_iff.1 info_int
  simp only [Prod.mk.injEq] at hzz
  obtain ⟨hz0, hz1, hz2⟩ := hzz
  exact shp_app1 hv hgd s x 22 ho Try.underlying22 hinf hz0 hz1 hz2 rfl hone hs hx hn hbase hK
end
theorem R_made_nilI (w : World) (ok : Nat → Prop) (h : ok w.heap.size) : Kd.R (Kd.int .i64) 3 (w.alloc (.cells #[] 3)) 0 ok (.slice (some ⟨w.heap.size, 0, none⟩) 0 0) [] :=
  Kd.R_of_own ⟨rfl, .inr ⟨w.heap.size, 0, #[], rfl, Nat.zero_le _, heap_alloc_new w _, Nat.le_refl _, Nat.zero_le _, rfl, rfl⟩⟩ (fun k hk => by injection hk with hk; subst hk; exact h)
/-- the row that is spoilt: its rest is as it was -/
def Spo (w : World) (A : Option Addr) (c : Nat) (o : List Int) (i lo hi : Nat) : Prop := 0 < o.length → ∃ ga, A = some ⟨ga, 0, none⟩ ∧ lo ≤ ga ∧ ga < hi ∧ o.length ≤ c ∧ c ≤ maxLen ∧ ∃ cur : Array Value, w.heap[ga]? = some (.cells cur 3 (0, 0)) ∧ cur.size = c ∧ ∀ j, i ≤ j → j < o.length → cur[j]? = some (.int .i64 (gI o j))
theorem Spo.of {w : World} {A : Option Addr} {c lo hi : Nat} {o : List Int} {ok : Nat → Prop} (h : Kd.R (Kd.int .i64) 3 w lo ok (.slice A o.length c) o) (hh : w.heap.size ≤ hi) : Spo w A c o 0 lo hi := fun hp => by
  have ho := Kd.own_of_R h
  rcases ho.2 with ⟨_, q⟩ | ⟨g, c', cur, h1, h2, h3, h4, h5, h6, h7⟩
  · omega
  · simp only [Value.slice.injEq] at h1
    obtain ⟨e1, _, e2⟩ := h1
    subst e2
    refine ⟨g, e1, h2, Nat.lt_of_lt_of_le (blk_lt h3) hh, h4, h5, cur, h3, by omega, fun j _ hj => ?_⟩
    have := ho.cells (g := g) (by rw [e1]; rfl) j (.int .i64 (gI o j)) (by simp [encs, gI_some hj])
    rwa [addr_at, blk_cell h3 j] at this
theorem Spo.step {w w1 : World} {A : Option Addr} {c : Nat} {o : List Int} {i lo hi : Nat} (h : Spo w A c o i lo hi) (hm : ∀ k, lo ≤ k → k < hi → w1.heap[k]? = w.heap[k]?) : Spo w1 A c o i lo hi := fun hp => by
  obtain ⟨ga, e, h1, h2, h3, h4, cur, h5, h6⟩ := h hp
  exact ⟨ga, e, h1, h2, h3, h4, cur, (hm ga h1 h2).trans h5, h6⟩
theorem Spo.set {w : World} {ga c i lo hi : Nat} {o : List Int} (h : Spo w (some ⟨ga, 0, none⟩) c o i lo hi) (v : Value) : Spo (w.setCell ⟨ga, i, none⟩ v) (some ⟨ga, 0, none⟩) c o (i + 1) lo hi := fun hp => by
  obtain ⟨ga', e, h1, h2, h3, h4, cur, h5, h6, h7⟩ := h hp
  simp only [Option.some.injEq, Addr.mk.injEq] at e
  obtain ⟨rfl, _⟩ := e
  refine ⟨ga, rfl, h1, h2, h3, h4, _, blk_set h5 i v, by simpa using h6, fun j hj hjl => ?_⟩
  rw [Array.getElem?_setIfInBounds_ne (by omega)]
  exact h7 j (by omega) hjl
theorem Spo.shp {w : World} {A : Option Addr} {c lo hi : Nat} {o : List Int} {i : Nat} (h : Spo w A c o i lo hi) (hp : 0 < o.length) : Shp 3 1 lo w (.slice A o.length c) o.length := by
  obtain ⟨ga, rfl, h1, h2, h3, h4, cur, h5, h6, h7⟩ := h hp
  exact .inr ⟨ga, c, cur, rfl, h1, h5, h3, h4, by omega⟩
set_option maxRecDepth 100000 in
set_option maxHeartbeats 8000000 in
theorem hl_own (n : Int) (A : Option Addr) (c : Nat) (xs : List (Int × Int × Int)) (w : World) (hC : Kd.C kAct w A xs.length xs) (hl : xs.length ≤ 4194304) : Calls Try.prog 5 #[.int .i64 n, .slice A xs.length c] w fun e w' => e = .returned (.bool true) ∧ Below w.heap.size w w' := by
  by_cases h0 : n < 0
  · clear hC
    go_enter Try.func5, Try.ntmps5
    go_wp2_with (first
      | (go_at_call 19; go_loud (refine (hl_play_low n A c xs.length w h0).mono ?_; rintro e w1 ⟨rfl, rfl⟩))
      | (go_at_call 14; go_loud (refine (hl_lives w).mono ?_; rintro e w1 ⟨rfl, hb⟩; have H1 := Aside0.mk hb; clear hb)))
    go_ret
    exact ⟨rfl, H1.out⟩
  by_cases h1 : 1048576 < n
  · clear hC
    have d0 : decide (n < 0) = false := decide_eq_false h0
    go_enter Try.func5, Try.ntmps5
    go_wp2_with (first
      | (go_at_call 19; go_loud (refine (hl_play_high n A c xs.length w h1).mono ?_; rintro e w1 ⟨rfl, rfl⟩))
      | (go_at_call 14; go_loud (refine (hl_lives w).mono ?_; rintro e w1 ⟨rfl, hb⟩; have H1 := Aside0.mk hb; clear hb)))
    go_ret
    exact ⟨rfl, H1.out⟩
  obtain ⟨m, rfl⟩ := Int.eq_ofNat_of_zero_le (show 0 ≤ n by omega)
  have hm : m ≤ 1048576 := by omega
  have HM := Aside0.mk hm
  have HC := Aside0.mk hC
  have HL := Aside0.mk hl
  have d0 : decide ((m : Int) < 0) = false := decide_eq_false h0
  have d1 : decide (1048576 < (m : Int)) = false := decide_eq_false h1
  have d2 : ¬ (1048576 < m) := by omega
  clear h0 h1 hm hC hl
  go_enter Try.func5, Try.ntmps5
  go_upto_region 6 with (first
      | (go_at_call 19; go_loud (refine (hl_play m A c xs w HM.out HC.out HL.out).mono ?_; rintro e w1 ⟨g, l, sc, st, rfl, hs, hb⟩; have H1 := Aside0.mk (And.intro hs hb); clear hs hb))
      | (go_at_call 14; go_loud (refine (hl_lives w1).mono ?_; rintro e w2 ⟨rfl, hb⟩; have H2 := Aside0.mk (And.intro (H1.out.1.below hb).bound (below_step H1.out.2 hb)); clear hb)))
  go_upto_region 7 with (first
      | (go_at_call 20; go_loud (refine (hs_Order H2.out.1).mono ?_; rintro e w3 ⟨Aa, ca, o, rfl, ho, hpw, hmm, hb⟩; have H3 := Aside0.mk (And.intro (H2.out.1.below hb) (And.intro hb (And.intro ho (And.intro hpw hmm)))); clear ho hpw hmm hb))
      | (go_at_call 20; go_loud (refine (hs_Order H3.out.1).mono ?_; rintro e w4 ⟨Ab, cb, o2, rfl, ho, hpw, hmm, hb⟩; have hoo : o = o2 := (sorted_same hpw H3.out.2.2.2.1 (fun v => (hmm v).trans (H3.out.2.2.2.2 v).symm)).symm; subst hoo; have H4 := Aside0.mk (And.intro ho hb); clear ho hpw hmm hb)))
  have HO : Aside0 (o.length ≤ 1048576) := ⟨by
    have := same_len (sorted_nodup H3.out.2.2.2.1) H3.out.1.nodup H3.out.2.2.2.2
    have := H3.out.1.le
    have := HM.out
    omega⟩
  go_upto_region 9 with fail
  obtain ⟨w5, hw5⟩ : ∃ w', w' = w4.alloc (.cells #[] 3) := ⟨_, rfl⟩
  have hb5 : Below w4.heap.size w4 w5 := by rw [hw5]; exact below_alloc (Below.refl _ _) _
  have hr5 : Kd.R (Kd.int .i64) 3 w5 0 (fun k => w4.heap.size ≤ k) (.slice (some ⟨w4.heap.size, 0, none⟩) 0 0) [] := by rw [hw5]; exact R_made_nilI w4 _ (Nat.le_refl _)
  have hs5 : w4.heap.size < w5.heap.size := by rw [hw5]; simp
  have HB5 : Aside0 (Below w2.heap.size w2 w5 ∧ Spo w5 Aa ca o 0 w2.heap.size w3.heap.size ∧ Kd.R (Kd.int .i64) 3 w5 0 (fun k => w3.heap.size ≤ k ∧ k < w4.heap.size) (.slice Ab o.length cb) o ∧ Kd.R (Kd.int .i64) 3 w5 0 (fun k => w4.heap.size ≤ k) (.slice (some ⟨w4.heap.size, 0, none⟩) 0 0) []) := ⟨by
    refine ⟨below_step (below_step H3.out.2.1 H4.out.2) hb5, ?_, ?_, hr5⟩
    · refine (Spo.of H3.out.2.2.1 (Nat.le_refl _)).step (fun k _ hk => ?_)
      exact (hb5.block k (Nat.lt_of_lt_of_le hk H4.out.2.size)).trans (H4.out.2.block k hk)
    · exact Kd.R_mono (Kd.R_lower (Kd.R_below (Kd.R_bound H4.out.1) hb5) (Nat.zero_le _)) (fun k q => ⟨q.2.1, q.2.2.1⟩)⟩
  have HSH5 : Aside0 (Shp 3 1 w2.heap.size w5 (.slice Aa o.length ca) o.length) := ⟨(Shp.of_own (Kd.own_of_R H3.out.2.2.1) (Nat.le_refl _)).forms (Forms.of_below (below_step H4.out.2 hb5))⟩
  have HSZ : Aside0 (w2.heap.size ≤ w3.heap.size ∧ w3.heap.size ≤ w4.heap.size ∧ w4.heap.size < w5.heap.size) := ⟨H3.out.2.1.size, H4.out.2.size, hs5⟩
  have hww : w5 = (w4.alloc (.cells #[] 3)) := hw5
  first | rw [← hw5] | skip
  clear hw5 hww hb5 hr5 hs5
  have hoN : o.length ≤ 1048576 := HO.out
  go_loopg [9, 8] o.length (fun kq v9 v8 w' => ∃ (i : Nat) (Aw : Option Addr) (cw : Nat), v9 = .int .i64 (i : Int) ∧ v8 = .slice Aw i cw ∧ Aside0 (i + kq = o.length) ∧ Aside0 (Below w2.heap.size w2 w' ∧ Spo w' Aa ca o i w2.heap.size w3.heap.size ∧ Kd.R (Kd.int .i64) 3 w' 0 (fun k => w3.heap.size ≤ k ∧ k < w4.heap.size) (.slice Ab o.length cb) o ∧ Kd.R (Kd.int .i64) 3 w' 0 (fun k => w4.heap.size ≤ k) (.slice Aw i cw) (o.take i)) ∧ Aside0 (w5.heap.size ≤ w'.heap.size ∧ (i = 0 → w5 = w')))
  case atStart => exact ⟨0, _, _, rfl, rfl, ⟨by omega⟩, HB5, ⟨Nat.le_refl _, fun _ => rfl⟩⟩
  case round =>
    obtain ⟨i, Aw, cw, rfl, rfl, HIK, HJ, HZ⟩ := hrel
    cases gk with
    | succ k2 =>
      have hi1 : (i : Int) < (o.length : Int) := by have := HIK.out; omega
      have hi0 : (0 : Int) ≤ (i : Int) := by omega
      have hio : i < o.length := by omega
      obtain ⟨ga, eA, g1, g2, g3, g4, cur, g5, g6, g7⟩ := HJ.out.2.1 (by omega)
      subst eA
      obtain ⟨x, hx⟩ : ∃ x, x = gI o i := ⟨_, rfl⟩
      have q1 := (blk_cell g5 i).trans (g7 i (Nat.le_refl _) hio)
      rw [← hx] at q1
      have htk : o.take i ++ [x] = o.take (i + 1) := by rw [List.take_succ_eq_append_getElem hio, hx]; congr 2; exact gI_of (List.getElem?_eq_getElem hio)
      have HTK := Aside0.mk htk
      have HGA : Aside0 (w2.heap.size ≤ ga ∧ ga < w3.heap.size) := ⟨⟨g1, g2⟩⟩
      have HIO : Aside0 (i < o.length ∧ o.length ≤ 1048576) := ⟨⟨hio, hoN⟩⟩
      have hgl := blk_lt g5
      have q1a : ∀ ob : Obj, (wr.alloc ob).cell? ⟨ga, i, none⟩ = some (.int .i64 x) := fun ob => ((below_alloc (Below.refl wr.heap.size wr) ob).cell hgl).trans q1
      have HL5 : Aside0 (w5.heap.size ≤ wr.heap.size ∧ ga < wr.heap.size) := ⟨⟨HZ.out.1, hgl⟩⟩
      have HG5 := Aside0.mk (And.intro g5 g6)
      clear hx htk g1 g2 g3 g4 g5 g6 g7 hio hgl HB5
      go_upto_region 12 with (at_builtin; go_loud (refine Kd.R_append (Kd.int .i64) (w0 := wr) 0 rfl (.tmp 40) (.tmp 45) 22 3 (.int .i64 0) 8 rfl Try.underlying22 info_int rfl (by decide) (by omega) (.slice Aw i cw) (o.take i) x [.int .i64 x] (fun k => w4.heap.size ≤ k) (fun _ => False) rfl rfl ?aP (fun _ hk => hk.elim) ?aF HJ.out.2.2.2 ⟨rfl, rfl, rfl, Nat.le_refl _, fun _ h => by omega⟩ (Nat.zero_le _) ?aL ?_; (case aP => exact rfl); (case aF => exact fun k hk => by have := HSZ.out; have := HL5.out; omega); (case aL => have := HIO.out; rw [List.length_take]; omega); intro v1 w6 ho hb0 hg hat; rw [HTK.out] at ho; obtain ⟨A1, c1, rfl⟩ := Kd.R_slice ho; rw [show (o.take (i + 1)).length = i + 1 by rw [List.length_take]; have := HIO.out; omega]; rw [show (o.take (i + 1)).length = i + 1 by rw [List.length_take]; have := HIO.out; omega] at ho; have hgb := hg.block ga HL5.out.2 (fun e => by have h8 := HJ.out.2.2.2.1 ga e.symm; have h9 := HGA.out; have h7 := HSZ.out; omega); have q2 := (World.cell?_of_block (a := ⟨ga, i, none⟩) hgb).trans q1; have q3 := blk_frozen (hgb.trans HG5.out.1) i; have H6 := Aside0.mk (And.intro ho hg); clear ho hb0 hg hat hgb q1 q1a))
      have HJ6 : Aside0 (∀ u : Value, Below w2.heap.size w2 (w6.setCell ⟨ga, i, none⟩ u) ∧ Spo (w6.setCell ⟨ga, i, none⟩ u) (some ⟨ga, 0, none⟩) ca o (i + 1) w2.heap.size w3.heap.size ∧ Kd.R (Kd.int .i64) 3 (w6.setCell ⟨ga, i, none⟩ u) 0 (fun k => w3.heap.size ≤ k ∧ k < w4.heap.size) (.slice Ab o.length cb) o ∧ Kd.R (Kd.int .i64) 3 (w6.setCell ⟨ga, i, none⟩ u) 0 (fun k => w4.heap.size ≤ k) (.slice A1 (i + 1) c1) (o.take (i + 1))) := ⟨fun u => by
        have hz := HSZ.out
        have hga := HGA.out
        have hl5 := HL5.out
        have hne : ∀ k, k < w4.heap.size → k < wr.heap.size → w6.heap[k]? = wr.heap[k]? := fun k hk hkr => H6.out.2.block k hkr (fun e => by have := HJ.out.2.2.2.1 k e.symm; omega)
        have hset : ∀ k, k ≠ ga → (w6.setCell ⟨ga, i, none⟩ u).heap[k]? = w6.heap[k]? := fun k hk => Below.heap_setCell w6 ⟨ga, i, none⟩ u k hk
        refine ⟨?_, (HJ.out.2.1.step (fun k _ hk => hne k (by omega) (by omega))).set u, ?_, ?_⟩
        · have hb6 : Below w2.heap.size w2 w6 := by
            have hb := HJ.out.1
            have hg := H6.out.2
            exact ⟨hg.os.trans hb.os, hg.tape.trans hb.tape, hg.output.trans hb.output, Nat.le_trans hb.size hg.size, fun k hk => (hne k (by omega) (by have := hb.size; omega)).trans (hb.block k hk)⟩
          exact below_set hb6 hga.1
        · exact Kd.R_step HJ.out.2.2.1 (fun k q hk => (hset k (by omega)).trans (hne k q.2 hk))
        · exact Kd.R_step H6.out.1 (fun k q _ => hset k (by omega))⟩
      have HSZ6 : Aside0 (∀ u : Value, w5.heap.size ≤ (w6.setCell ⟨ga, i, none⟩ u).heap.size) := ⟨fun u => by have := H6.out.2.size; have := HL5.out.1; show w5.heap.size ≤ (w6.setCell ⟨ga, i, none⟩ u).heap.size; simp [World.setCell]; omega⟩
      go_wp2
      go_roundg k2
      case measure => omega
      case rel => exact ⟨i + 1, A1, c1, by go_num, rfl, ⟨by have := HIK.out; omega⟩, ⟨HJ6.out _⟩, ⟨HSZ6.out _, fun q => absurd q (Nat.succ_ne_zero _)⟩⟩
    | zero =>
      have hi : ¬ ((i : Int) < (o.length : Int)) := by have := HIK.out; omega
      have hio : i = o.length := by have := HIK.out; omega
      subst hio
      have hj4 := HJ.out.2.2.2
      rw [List.take_length] at hj4
      have HSH : Aside0 (Shp 3 1 w2.heap.size wr (.slice Aa o.length ca) o.length) := ⟨by
        by_cases hz : o.length = 0
        · rw [← HZ.out.2 hz]; exact HSH5.out
        · exact HJ.out.2.1.shp (by omega)⟩
      have HOWN : Aside0 (∀ k, (Value.slice Aa o.length ca).ownBlock = some k → (w2.heap.size ≤ k ∧ k < w3.heap.size) ∨ wr.heap.size ≤ k) := ⟨fun k e => .inl ⟨Kd.R_base H3.out.2.2.1 k e, Kd.R_lt H3.out.2.2.1 k e⟩⟩
      have HJ9 : Aside0 (Below w2.heap.size w2 wr ∧ Kd.R (Kd.int .i64) 3 wr 0 (fun k => w3.heap.size ≤ k ∧ k < w4.heap.size) (.slice Ab o.length cb) o ∧ Kd.R (Kd.int .i64) 3 wr 0 (fun k => w4.heap.size ≤ k ∧ k < wr.heap.size) (.slice Aw o.length cw) o ∧ w5.heap.size ≤ wr.heap.size) := ⟨⟨HJ.out.1, HJ.out.2.2.1, Kd.R_mono (Kd.R_bound hj4) (fun k q => ⟨q.1, q.2.2.1⟩), HZ.out.1⟩⟩
      obtain ⟨w7, hw7⟩ : ∃ w', w' = wr := ⟨_, rfl⟩
      rw [← hw7] at HSH HOWN HJ9 ⊢
      clear hw7 hj4 HJ HZ HB5 HSH5 hi
      go_upto_region 14 with fail
      obtain ⟨kk, hints⟩ := ints_same o (by omega)
      have HI := Aside0.mk hints
      clear hints
      go_loopg [10, 6] 16 (fun kq v10 v6 w' => ∃ (i : Nat) (A6 : Option Addr) (c6 : Nat), v10 = .int .i64 (i : Int) ∧ v6 = .slice A6 (o.length + i) c6 ∧ Aside0 (i + kq = 16) ∧ Aside0 (Shp 3 1 w2.heap.size w' (.slice A6 (o.length + i) c6) (o.length + i)) ∧ Aside0 (∀ k, (Value.slice A6 (o.length + i) c6).ownBlock = some k → (w2.heap.size ≤ k ∧ k < w3.heap.size) ∨ w7.heap.size ≤ k) ∧ Aside0 (Below w2.heap.size w2 w' ∧ Kd.R (Kd.int .i64) 3 w' 0 (fun k => w3.heap.size ≤ k ∧ k < w4.heap.size) (.slice Ab o.length cb) o ∧ Kd.R (Kd.int .i64) 3 w' 0 (fun k => w4.heap.size ≤ k ∧ k < w7.heap.size) (.slice Aw o.length cw) o ∧ w7.heap.size ≤ w'.heap.size))
      case atStart => exact ⟨0, Aa, ca, rfl, rfl, ⟨by omega⟩, HSH, HOWN, ⟨⟨HJ9.out.1, HJ9.out.2.1, HJ9.out.2.2.1, Nat.le_refl _⟩⟩⟩
      case round =>
        obtain ⟨i, A6, c6, rfl, rfl, HIK2, HS6, HO6, HJ6⟩ := hrel
        cases gk with
        | succ k2 =>
          have hi1 : (i : Int) < 16 := by have := HIK2.out; omega
          have hi1' : i < 16 := by omega
          have HL7 : Aside0 (w5.heap.size ≤ w7.heap.size ∧ o.length + i + 1 ≤ 2199023255552) := ⟨⟨HJ9.out.2.2.2, by omega⟩⟩
          have HBS : Aside0 (w2.heap.size ≤ wr.heap.size) := ⟨HJ6.out.1.size⟩
          clear HSH HOWN
          go_wp2_with (at_builtin; go_loud (refine shp_app1i (base := w2.heap.size) HS6.out rfl (.tmp 56) (.tmp 59) rfl rfl rfl rfl HL7.out.2 HBS.out ?_; intro A8 c8 w8 h1 h2 h3; have H8 := Aside0.mk (And.intro h1 (And.intro h2 h3)); clear h1 h2 h3))
          go_roundg k2
          case measure => omega
          case rel =>
            have hz := HSZ.out
            have hl7 := HL7.out.1
            have hne : ∀ k, k < w2.heap.size ∨ (w3.heap.size ≤ k ∧ k < w7.heap.size) → k < wr.heap.size → w8.heap[k]? = wr.heap[k]? := fun k hk hkr => H8.out.2.1.block k hkr (fun e => by have := HO6.out k e.symm; omega)
            refine ⟨i + 1, A8, c8, by go_num, by first | rfl | (rw [Nat.add_assoc]), ⟨by have := HIK2.out; omega⟩, ⟨H8.out.1⟩, ⟨fun k e => ?_⟩, ⟨?_, ?_, ?_, ?_⟩⟩
            · rcases H8.out.2.2 with q | ⟨b, q, hb⟩
              · exact HO6.out k (q ▸ e)
              · have e2 : some b = some k := q.symm.trans e
                injection e2 with e2
                have := HJ6.out.2.2.2
                omega
            · have hb := HJ6.out.1
              have hg := H8.out.2.1
              exact ⟨hg.os.trans hb.os, hg.tape.trans hb.tape, hg.output.trans hb.output, Nat.le_trans hb.size hg.size, fun k hk => (hne k (by omega) (by have := hb.size; omega)).trans (hb.block k hk)⟩
            · exact Kd.R_step HJ6.out.2.1 (fun k q hk => hne k (by omega) hk)
            · exact Kd.R_step HJ6.out.2.2.1 (fun k q hk => hne k (by omega) hk)
            · exact Nat.le_trans HJ6.out.2.2.2 H8.out.2.1.size
        | zero =>
          have hi : i = 16 := by have := HIK2.out; omega
          subst hi
          have hw1 : wrap64 ((o.length : Int) + 16) = (o.length : Int) + 16 := by unfold wrap64; omega
          clear HIK2 HO hoN
          have HRB := Aside0.mk (And.intro (Kd.R_reads' HJ6.out.2.1) (Kd.R_reads' HJ6.out.2.2.1))
          have HHS := Aside0.mk (H2.out.1.below HJ6.out.1)
          have HBW := Aside0.mk (below_step H2.out.2 HJ6.out.1)
          clear HSH HOWN HS6 HO6
          have HINT : Aside0 (∀ (W : World) (A9 : Option Addr) (c9 : Nat), Below wr.heap.size wr W → Kd.C (Kd.int .i64) W A9 o.length o → o.length ≤ c9 → Calls Try.prog 21 #[.slice A9 o.length c9, .slice Aw o.length cw] W fun e w' => e = .returned (.bool true) ∧ Drawn0 W w') := ⟨fun W A9 c9 hb hc hcc => fulcrumlaw19_ints.calls kk A9 c9 o Aw cw o true W hc hcc (Kd.C_below HRB.out.2.2.2 hb) HRB.out.2.2.1 HI.out⟩
          have HORD : Aside0 (∀ W : World, Below wr.heap.size wr W → Calls Try.prog 20 #[.pointer (some ⟨g, 0, none⟩)] W fun e w' => ∃ (A9 : Option Addr) (c9 : Nat), e = .returned (.slice A9 o.length c9) ∧ Kd.C (Kd.int .i64) w' A9 o.length o ∧ o.length ≤ c9 ∧ Below wr.heap.size wr w') := ⟨fun W hb => (hs_Order (HHS.out.below hb)).mono (by
            rintro e w9 ⟨A9, c9, o9, rfl, ho9, hpw9, hmm9, hb9⟩
            have hoo : o9 = o := sorted_same hpw9 H3.out.2.2.2.1 (fun v => (hmm9 v).trans (H3.out.2.2.2.2 v).symm)
            rw [hoo] at ho9
            rw [hoo]
            exact ⟨A9, c9, rfl, (Kd.R_reads' ho9).2.2, (Kd.R_reads' ho9).2.1, below_step hb hb9⟩)⟩
          have HBB := Aside0.mk HRB.out.1
          clear HRB HHS HI HJ6 HJ9 H2 H3 H4 HSZ H1 HIK
          go_wp2_with (first
            | (go_at_call 20; go_loud (refine (HORD.out _ HD.out.below).mono ?_; rintro e w9 ⟨A9, c9, rfl, ho9, ho8, hb9⟩; have H9 := Aside0.mk (And.intro ho9 (And.intro ho8 hb9)); clear ho9 ho8 hb9))
            | (go_at_call 21; go_loud (refine (HINT.out _ _ _ ?sb ?sc ?sd).mono ?_; (case sb => first | exact Below.refl _ _ | exact H9.out.2.2); (case sc => first | exact HBB.out.2.2 | exact H9.out.1); (case sd => first | exact HBB.out.2.1 | exact H9.out.2.1); rintro e wd ⟨rfl, hd⟩; have HD := Aside0.mk hd; clear hd)))
          go_ret
          exact ⟨rfl, below_step (below_step HBW.out H9.out.2.2) HD.out.below⟩

end Go.Proofs.Ytocmldppefjbgaa.PHP
