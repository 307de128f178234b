import Derived.Test.YtegaaobiedfjcaaStQ
import Derived.Test.YtegaaobiedfjcaaStS
import Derived.Test.YtegaaobiedfjcaaStT
import Derived.Test.YtegaaobiedfjcaaStU
import Derived.Test.YtegaaobiedfjcaaPUx5
namespace Go.Proofs.Ytegaaobiedfjcaa.PU
open Go.RowKit Go.Proofs.YtegaaobiedfjcaaW.PrintWords Go.Proofs.YtegaaobiedfjcaaW.PrintLast Go.Proofs.YtegaaobiedfjcaaW.PrintMore Go.Proofs.YtegaaobiedfjcaaH
set_option linter.unusedVariables false
set_option linter.unusedSimpArgs false
theorem play_walk (w0 : World) (ok P : Nat → Prop) (g : Nat) (vals : List Int) (cls : List (List Int × Int × Int)) (marks : List S48) (Al : Option Addr) (cl : Nat) (cs : List (List Int)) (Am : Option Addr) (cm : Nat) (n : Int) (Ac : Option Addr) (cc : Nat) (c : List Int) (D lit N : Int) (w : World) (h : St w ok g vals cls marks) (hi : SInv n vals cls marks cs) (hM : Mod w0 w P (.slice Al cs.length cl) (.slice Am marks.length cm) cs marks) (hd : ∀ k, ok k → ¬ P k) (hb0 : Below w0.heap.size w0 w) (ho0 : ∀ k, ok k → w0.heap.size ≤ k) (hrc0 : ∀ W : World, Rest w W (fun k => ok k ∨ P k) → Kd.C (Kd.int .i64) W Ac c.length c) (hcc : c.length ≤ cc) (hcl : c.length ≤ 4194304) (hcsl : cs.length < 1048576) :
    Calls Try.prog 30 #[.pointer (some ⟨g, 0, none⟩), .agg #[.int .i64 n, .slice Al cs.length cl, .slice Am marks.length cm], .agg #[.int .i64 D, .slice Ac c.length cc, .int .i64 lit, .int .i64 N]] w fun e w' => ∃ n' vl' vm', e = .returned (.tuple #[.agg #[.int .i64 n', vl', vm'], .bool true]) ∧ PlayPost w0 w w' ok P g n' vl' vm' cs.length cc := by
  have hrc : Kd.C (Kd.int .i64) w Ac c.length c := hrc0 w (Rest.refl _ _)
  have hl := hi.len
  by_cases h0 : D = 0
  · subst h0
    cases hb : litsOk vals c with
    | false => exact play_Add_bad w0 ok P g vals cls marks Al cl cs Am cm n Ac cc c lit N w hb h hi hM hd hb0 hrc hcc hcl hcsl
    | true => exact play_Add_ok w0 ok P g vals cls marks Al cl cs Am cm n Ac cc c lit N w ho0 hb hrc0 h hi hM hd hb0 hrc hcc hcl hcsl
  by_cases h1 : D = 1
  · subst h1
    by_cases hn : n = 262144
    · exact play_Grow_full w0 ok P g vals cls marks Al cl cs Am cm n Ac cc c lit N w hn h hi hM hd hb0 hrc hcc hcl hcsl
    · exact play_Grow_ok w0 ok P g vals cls marks Al cl cs Am cm n Ac cc c lit N w ho0 (by omega) h hi hM hd hb0 hrc hcc hcl hcsl
  by_cases h2 : D = 2
  · subst h2
    cases hb : litB n lit with
    | false => exact play_Decide_arg w0 ok P g vals cls marks Al cl cs Am cm n Ac cc c lit N w hb h hi hM hd hb0 hrc hcc hcl hcsl
    | true =>
      by_cases hv : valL vals lit = 0
      · exact play_Decide_ok w0 ok P g vals cls marks Al cl cs Am cm n Ac cc c lit N w ho0 hb hv h hi hM hd hb0 hrc hcc hcl hcsl
      · exact play_Decide_trail w0 ok P g vals cls marks Al cl cs Am cm n Ac cc c lit N w hb hv h hi hM hd hb0 hrc hcc hcl hcsl
  by_cases h3 : D = 3
  · subst h3
    cases hb : litB n lit with
    | false => exact play_Force_arg w0 ok P g vals cls marks Al cl cs Am cm n Ac cc c lit N w hb h hi hM hd hb0 hrc hcc hcl hcsl
    | true =>
      by_cases hN : N < 0
      · exact play_Force_neg w0 ok P g vals cls marks Al cl cs Am cm n Ac cc c lit N w hb hN h hi hM hd hb0 hrc hcc hcl hcsl
      by_cases hN2 : (cs.length : Int) ≤ N
      · exact play_Force_high w0 ok P g vals cls marks Al cl cs Am cm n Ac cc c lit N w hb hN hN2 h hi hM hd hb0 hrc hcc hcl hcsl
      obtain ⟨i, rfl⟩ := Int.eq_ofNat_of_zero_le (a := N) (by omega)
      have hil : i < cs.length := by omega
      cases hf : forcesV vals cs[i] lit with
      | true => exact play_Force_ok w0 ok P g vals cls marks Al cl cs Am cm n Ac cc c lit w ho0 i cs[i] hb (List.getElem?_eq_getElem hil) hf h hi hM hd hb0 hrc hcc hcl hcsl
      | false => exact play_Force_trail w0 ok P g vals cls marks Al cl cs Am cm n Ac cc c lit w i cs[i] hb (List.getElem?_eq_getElem hil) hf h hi hM hd hb0 hrc hcc hcl hcsl
  by_cases h4 : D = 4
  · subst h4
    exact play_Propagate w0 ok P g vals cls marks Al cl cs Am cm n Ac cc c lit N w ho0 h hi hM hd hb0 hrc hcc hcl hcsl
  by_cases h5 : D = 5
  · subst h5
    by_cases hN : N < 0
    · exact play_Back_neg w0 ok P g vals cls marks Al cl cs Am cm n Ac cc c lit N w hN h hi hM hd hb0 hrc hcc hcl hcsl
    by_cases hN2 : lvl marks < N
    · exact play_Back_high w0 ok P g vals cls marks Al cl cs Am cm n Ac cc c lit N w hN hN2 h hi hM hd hb0 hrc hcc hcl hcsl
    · exact play_Back_ok w0 ok P g vals cls marks Al cl cs Am cm n Ac cc c lit N w ho0 (by omega) (by omega) h hi hM hd hb0 hrc hcc hcl hcsl
  exact play_none w0 ok P g vals cls marks Al cl cs Am cm n Ac cc c lit N D w (fun k q1 q2 => by omega) h hi hM hd hb0 hrc hcc hcl hcsl

/-! ### a script's run: what holds between two calls -/
structure PS (w0 w : World) (g Bm : Nat) (i : Nat) (ok P : Nat → Prop) (vals : List Int) (cls : List (List Int × Int × Int)) (marks : List S48) (cs : List (List Int)) (n : Int) (vl vm : Value) : Prop where
  st : St w ok g vals cls marks
  inv : SInv n vals cls marks cs
  mod : Mod w0 w P vl vm cs marks
  dj : ∀ k, ok k → ¬ P k
  ok0 : ∀ k, ok k → w0.heap.size < k ∧ k ≠ Bm
  P0 : ∀ k, P k → w0.heap.size < k ∧ k ≠ Bm
  cnt : cs.length ≤ i
  bm : w.heap[Bm]? = some (.cells #[.int .i64 n, vl, vm] 65 (0, 0))
  bel : Below w0.heap.size w0 w
  hne : w0.heap.size < Bm
section
variable {w0 w : World} {g Bm i : Nat} {ok P : Nat → Prop} {vals : List Int} {cls : List (List Int × Int × Int)} {marks : List S48} {cs : List (List Int)} {n : Int} {vl vm : Value}
theorem PS.below (h : PS w0 w g Bm i ok P vals cls marks cs n vl vm) {W : World} (hb : Below w.heap.size w W) : PS w0 W g Bm i ok P vals cls marks cs n vl vm :=
  ⟨h.st.below hb, h.inv, h.mod.below hb, h.dj, h.ok0, h.P0, h.cnt, (hb.block Bm (blk_lt h.bm)).trans h.bm, below_step h.bel hb, h.hne⟩
theorem PS.bound (h : PS w0 w g Bm i ok P vals cls marks cs n vl vm) : PS w0 w g Bm i (fun k => ok k ∧ k < w.heap.size) (fun k => P k ∧ k < w.heap.size) vals cls marks cs n vl vm :=
  ⟨h.st.bound, h.inv, h.mod.bound, fun k q1 q2 => h.dj k q1.1 q2.1, fun k q => h.ok0 k q.1, fun k q => h.P0 k q.1, h.cnt, h.bm, h.bel, h.hne⟩
theorem PS.playW (h : PS w0 w g Bm i ok P vals cls marks cs n vl vm) {W : World} (hb : Below w.heap.size w W) (Ac : Option Addr) (cc : Nat) (c : List Int) (D lit N : Int) (hrc0 : ∀ W' : World, Rest W W' (fun k => (ok k ∧ k < w.heap.size) ∨ (P k ∧ k < w.heap.size)) → Kd.C (Kd.int .i64) W' Ac c.length c) (hcc : c.length ≤ cc) (hcl : c.length ≤ 4194304) (hi : i < 1048576) :
    Calls Try.prog 30 #[.pointer (some ⟨g, 0, none⟩), .agg #[.int .i64 n, vl, vm], .agg #[.int .i64 D, .slice Ac c.length cc, .int .i64 lit, .int .i64 N]] W fun e w' => ∃ n' vl' vm', e = .returned (.tuple #[.agg #[.int .i64 n', vl', vm'], .bool true]) ∧ PlayPost w0 W w' (fun k => ok k ∧ k < w.heap.size) (fun k => P k ∧ k < w.heap.size) g n' vl' vm' cs.length cc := by
  obtain ⟨Al, cl, rfl⟩ := Kd.R_slice h.mod.rl
  obtain ⟨Am, cm, rfl⟩ := Kd.R_slice h.mod.rm
  have h' := h.bound.below hb
  exact play_walk w0 _ _ g vals cls marks Al cl cs Am cm n Ac cc c D lit N W h'.st h'.inv h'.mod h'.dj h'.bel (fun k q => Nat.le_of_lt (h'.ok0 k q).1) hrc0 hcc hcl (Nat.lt_of_le_of_lt h.cnt hi)
theorem PS.play (h : PS w0 w g Bm i ok P vals cls marks cs n vl vm) {W : World} (hb : Below w.heap.size w W) (Ac : Option Addr) (cc : Nat) (c : List Int) (D lit N : Int) (hrc0 : Kd.C (Kd.int .i64) w0 Ac c.length c) (hcc : c.length ≤ cc) (hcl : c.length ≤ 4194304) (hi : i < 1048576) :
    Calls Try.prog 30 #[.pointer (some ⟨g, 0, none⟩), .agg #[.int .i64 n, vl, vm], .agg #[.int .i64 D, .slice Ac c.length cc, .int .i64 lit, .int .i64 N]] W fun e w' => ∃ n' vl' vm', e = .returned (.tuple #[.agg #[.int .i64 n', vl', vm'], .bool true]) ∧ PlayPost w0 W w' (fun k => ok k ∧ k < w.heap.size) (fun k => P k ∧ k < w.heap.size) g n' vl' vm' cs.length cc :=
  h.playW hb Ac cc c D lit N (fun W' hR => Kd.C_below hrc0 (hR.below (below_step h.bel hb) (fun k q => q.elim (fun q => Nat.le_of_lt (h.ok0 k q.1).1) (fun q => Nat.le_of_lt (h.P0 k q.1).1)))) hcc hcl hi
theorem PS.is (h : PS w0 w g Bm i ok P vals cls marks cs n vl vm) {W : World} (hb : Below w.heap.size w W) :
    Calls Try.prog 31 #[.pointer (some ⟨g, 0, none⟩), .agg #[.int .i64 n, vl, vm]] W fun e w' => e = .returned (.bool true) ∧ Below W.heap.size W w' := by
  obtain ⟨Al, cl, rfl⟩ := Kd.R_slice h.mod.rl
  obtain ⟨Am, cm, rfl⟩ := Kd.R_slice h.mod.rm
  have h' := h.below hb
  have hl := h.inv.len
  have hn := h.inv.n0
  have e : (n + 1).toNat = vals.length := by omega
  exact is_walk ok g vals cls marks Al cl cs Am cm W n h'.st h.inv.fok (e ▸ h.inv.t) (by omega) h.inv.ecs (C_kC h'.bel (Kd.R_reads' h'.mod.rl).2.2) (Kd.R_reads' h'.mod.rl).2.1 (Kd.R_reads' h'.mod.rm).2.2 (Kd.R_reads' h'.mod.rm).2.1
/-- What a play leaves of the boxes. -/
theorem PS.box (h : PS w0 w g Bm i ok P vals cls marks cs n vl vm) {W w6 : World} (hb : Below w.heap.size w W) {n' : Int} {vl' vm' : Value} {cc : Nat} (hpp : PlayPost w0 W w6 (fun k => ok k ∧ k < w.heap.size) (fun k => P k ∧ k < w.heap.size) g n' vl' vm' cs.length cc) :
    w6.heap[Bm]? = some (.cells #[.int .i64 n, vl, vm] 65 (0, 0)) ∧ (∀ k, k ≤ w0.heap.size → w6.heap[k]? = W.heap[k]?) ∧ Below w0.heap.size w0 w6 ∧ Bm < w6.heap.size := by
  have hB := (hb.block Bm (blk_lt h.bm)).trans h.bm
  have h1 : w6.heap[Bm]? = some (.cells #[.int .i64 n, vl, vm] 65 (0, 0)) := (hpp.rest.block Bm (blk_lt hB) (fun q => q.elim (fun q => (h.ok0 _ q.1).2 rfl) (fun q => (h.P0 _ q.1).2 rfl))).trans hB
  have hlt : Bm < W.heap.size := blk_lt hB
  have hne := h.hne
  refine ⟨h1, fun k hk => hpp.rest.block k (by omega) (fun q => q.elim (fun q => ?_) (fun q => ?_)), hpp.rest.below (below_step h.bel hb) (fun k q => ?_), blk_lt h1⟩
  · have := (h.ok0 k q.1).1; omega
  · have := (h.P0 k q.1).1; omega
  · exact q.elim (fun q => Nat.le_of_lt (h.ok0 k q.1).1) (fun q => Nat.le_of_lt (h.P0 k q.1).1)
theorem PS.next (h : PS w0 w g Bm i ok P vals cls marks cs n vl vm) {W w6 w7 : World} (hb : Below w.heap.size w W) {n' : Int} {vl' vm' : Value} {cc : Nat} (hpp : PlayPost w0 W w6 (fun k => ok k ∧ k < w.heap.size) (fun k => P k ∧ k < w.heap.size) g n' vl' vm' cs.length cc) {b7 : Nat} (hR : Rest w6 w7 (fun k => k = b7)) (h7 : w.heap.size ≤ b7) (h7' : b7 < W.heap.size ∨ w6.heap.size ≤ b7) :
    ∃ ok' P' vals' cls' marks' cs', PS w0 (((w7.setCell ⟨Bm, 0, none⟩ (.int .i64 n')).setCell ⟨Bm, 1, none⟩ vl').setCell ⟨Bm, 2, none⟩ vm') g Bm (i + 1) ok' P' vals' cls' marks' cs' n' vl' vm' := by
  obtain ⟨b1, b2, b3, b4⟩ := h.box hb hpp
  obtain ⟨vals', cls', marks', cs', oS, oP, z1, z2, z3, z4, z5, z6, z7⟩ := hpp.out
  have hB := (hb.block Bm (blk_lt h.bm)).trans h.bm
  have hlt : Bm < W.heap.size := blk_lt hB
  have hlt' : Bm < w.heap.size := blk_lt h.bm
  have hws := hb.size
  have hne := h.hne
  have y1 : ∀ k, oS k → w0.heap.size < k ∧ k ≠ Bm ∧ (k < w6.heap.size → k ≠ b7) := fun k q => by
    rcases z4 k q with q | q
    · have := h.ok0 k q.1; exact ⟨this.1, this.2, fun _ => by omega⟩
    · exact ⟨by omega, by omega, fun _ => by omega⟩
  have y2 : ∀ k, oP k → w0.heap.size < k ∧ k ≠ Bm ∧ (k < w6.heap.size → k ≠ b7) := fun k q => by
    rcases z5 k q with q | q
    · have := h.P0 k q.1; exact ⟨this.1, this.2, fun _ => by omega⟩
    · exact ⟨by omega, by omega, fun _ => by omega⟩
  have hx : ∀ k, k ≠ Bm → k ≠ b7 → k < w6.heap.size → (((w7.setCell ⟨Bm, 0, none⟩ (.int .i64 n')).setCell ⟨Bm, 1, none⟩ vl').setCell ⟨Bm, 2, none⟩ vm').heap[k]? = w6.heap[k]? := fun k q1 q3 q2 => by
    rw [Below.heap_setCell _ ⟨Bm, 2, none⟩ _ k (fun e => q1 e), Below.heap_setCell _ ⟨Bm, 1, none⟩ _ k (fun e => q1 e), Below.heap_setCell _ ⟨Bm, 0, none⟩ _ k (fun e => q1 e)]
    exact hR.block k q2 q3
  have hbm : (((w7.setCell ⟨Bm, 0, none⟩ (.int .i64 n')).setCell ⟨Bm, 1, none⟩ vl').setCell ⟨Bm, 2, none⟩ vm').heap[Bm]? = some (.cells #[.int .i64 n', vl', vm'] 65 (0, 0)) := by
    have c0 := (hR.block Bm b4 (by omega)).trans b1
    have c1 := blk_set (blk_set (blk_set c0 0 (.int .i64 n')) 1 vl') 2 vm'
    exact c1
  have hRA : Rest w6 (((w7.setCell ⟨Bm, 0, none⟩ (.int .i64 n')).setCell ⟨Bm, 1, none⟩ vl').setCell ⟨Bm, 2, none⟩ vm') (fun k => k = Bm ∨ k = b7) := Rest.set (p := ⟨Bm, 2, none⟩) (Rest.set (p := ⟨Bm, 1, none⟩) (Rest.set (p := ⟨Bm, 0, none⟩) (hR.mono (fun _ _ q => .inr q)) (.inl rfl) _) (.inl rfl) _) (.inl rfl) _
  exact ⟨_, _, vals', cls', marks', cs', z6.bound.step (fun k q hk => hx k (y1 k q.1).2.1 ((y1 k q.1).2.2 q.2) hk), z1, z7.bound.step (fun k q hk => hx k (y2 k q.1).2.1 ((y2 k q.1).2.2 q.2) hk), fun k q1 q2 => z3 k q1.1 q2.1, fun k q => ⟨(y1 k q.1).1, (y1 k q.1).2.1⟩, fun k q => ⟨(y2 k q.1).1, (y2 k q.1).2.1⟩, by have := h.cnt; omega, hbm, hRA.below b3 (fun k q => by omega), hne⟩
end
theorem SInv.start {n : Int} (h0 : 0 ≤ n) (h1 : n ≤ 262144) : SInv n (List.replicate (n + 1).toNat 0) [] [] [] := by
  have hl : (List.replicate (n + 1).toNat (0 : Int)).length = (n + 1).toNat := List.length_replicate ..
  have hv : Vals (List.replicate (n + 1).toNat (0 : Int)) := ⟨by omega, by omega, fun x hx => by rw [List.eq_of_mem_replicate hx]; decide⟩
  have hf : Fit (List.replicate (n + 1).toNat (0 : Int)) [] [] := ⟨hv, fun x hx => (List.not_mem_nil hx).elim, fun x hx => (List.not_mem_nil hx).elim, Nat.zero_le _, by simp⟩
  exact ⟨hf, rfl, fun x hx => (List.not_mem_nil hx).elim, TInv.start _, MayL.nil, h0⟩
theorem PS.start {w0 w1 w2 : World} {g : Nat} {n : Int} (h0 : 0 ≤ n) (h1 : n ≤ 262144) (hs : w0.heap.size < w1.heap.size) (hb : Below w0.heap.size w0 w1) (hb2 : Below w1.heap.size w1 w2) (h : St w2 (fun k => w1.heap.size ≤ k) g (List.replicate (n + 1).toNat 0) [] []) :
    PS w0 (w2.alloc (.cells #[.int .i64 n, .slice none 0 0, .slice none 0 0] 65)) g w2.heap.size 0 (fun k => w1.heap.size ≤ k ∧ k < w2.heap.size) (fun _ => False) (List.replicate (n + 1).toNat 0) [] [] [] n (.slice none 0 0) (.slice none 0 0) := by
  have ha := below_alloc (Below.refl w2.heap.size w2) (.cells #[.int .i64 n, .slice none 0 0, .slice none 0 0] 65)
  have hz := hb2.size
  exact ⟨h.bound.below ha, SInv.start h0 h1, ⟨Kd.R_nil _ _ _ _ _, Kd.R_nil _ _ _ _ _⟩, fun _ _ q => q, fun k q => ⟨by omega, by omega⟩, fun k q => q.elim, Nat.le_refl _, heap_alloc_new _ _, below_step (below_step hb hb2) ha, by omega⟩
theorem refLoad0 (n : Int) : ∃ k, fulcrumref20_Load.f k n [] [] = some (if n < 0 then 1 else if n > 262144 then 2 else 0) := by
  refine ⟨8, ?_⟩
  unfold fulcrumref20_Load.f
  by_cases h0 : n < 0
  · rw [if_pos h0, if_pos h0]
  · rw [if_neg h0, if_neg h0]
    by_cases h1 : n > 262144
    · rw [if_pos h1, if_pos h1]; rfl
    · rw [if_neg h1, if_neg h1]
      rfl
/-- The places that a round's loads read: those of what came in, the script's box, the model's box. -/
def KeepP (lo Bm : Nat) (p : Addr) : Prop := p.block ≤ lo ∨ p.block = Bm
theorem PS.keep {w0 w : World} {g Bm i : Nat} {ok P : Nat → Prop} {vals : List Int} {cls : List (List Int × Int × Int)} {marks : List S48} {cs : List (List Int)} {n : Int} {vl vm : Value} (h : PS w0 w g Bm i ok P vals cls marks cs n vl vm) {w' : World} (hb : ∀ k, (k ≤ w0.heap.size ∨ k = Bm) → w'.heap[k]? = w.heap[k]?) : ∀ p, KeepP w0.heap.size Bm p → w'.cell? p = w.cell? p := fun p q => World.cell?_of_block (hb p.block q)
theorem wp_name {P : Program} {c : Code} {Q : Exit → Act → World → Prop} {a : Act} {W : World} (h : ∀ w7, w7 = W → Code.wp P c Q a w7) : Code.wp P c Q a W := h W rfl
theorem PS.play2 {w0 w : World} {g Bm i : Nat} {ok P : Nat → Prop} {vals : List Int} {cls : List (List Int × Int × Int)} {marks : List S48} {cs : List (List Int)} {n : Int} {vl vm : Value} (h : PS w0 w g Bm i ok P vals cls marks cs n vl vm) {W : World} (hb : Below w.heap.size w W) (Ac : Option Addr) (cc : Nat) (c : List Int) (D lit N : Int) (hrc0 : Kd.C (Kd.int .i64) w0 Ac c.length c) (hcc : c.length ≤ cc) (hcl : c.length ≤ 4194304) (hi : i < 1048576) :
    Calls Try.prog 30 #[.pointer (some ⟨g, 0, none⟩), .agg #[.int .i64 n, vl, vm], .agg #[.int .i64 D, .slice Ac c.length cc, .int .i64 lit, .int .i64 N]] W fun e w' => ∃ (n' : Int) (Al : Option Addr) (nl cl : Nat) (Am : Option Addr) (nm cm : Nat), e = .returned (.tuple #[.agg #[.int .i64 n', .slice Al nl cl, .slice Am nm cm], .bool true]) ∧ (Below w.heap.size w W ∧ PlayPost w0 W w' (fun k => ok k ∧ k < w.heap.size) (fun k => P k ∧ k < w.heap.size) g n' (.slice Al nl cl) (.slice Am nm cm) cs.length cc) ∧ (∀ p, KeepP w0.heap.size Bm p → w'.cell? p = w.cell? p) ∧ (∀ o, W.heap[w.heap.size]? = some o → w'.heap[w.heap.size]? = some o) ∧ Bm < w'.heap.size ∧ w0.heap.size < w'.heap.size := by
  refine (h.play hb Ac cc c D lit N hrc0 hcc hcl hi).mono ?_
  rintro e w' ⟨n', vl', vm', rfl, hpp⟩
  obtain ⟨y1, y2, y3, y4⟩ := h.box hb hpp
  obtain ⟨vals', cls', marks', cs', oS, oP, z1, z2, z3, z4, z5, z6, z7⟩ := hpp.out
  obtain ⟨Al', cl', rfl⟩ := Kd.R_slice z7.rl
  obtain ⟨Am', cm', rfl⟩ := Kd.R_slice z7.rm
  have hlt : w0.heap.size < w.heap.size := Nat.lt_trans h.hne (blk_lt h.bm)
  refine ⟨n', Al', _, cl', Am', _, cm', rfl, ⟨hb, hpp⟩, fun p q => ?_, fun o ho => ?_, y4, Nat.lt_trans h.hne y4⟩
  · refine h.keep (fun k q => ?_) p q
    rcases q with q | q
    · exact (y2 k q).trans (hb.block k (by omega))
    · rw [q, y1, h.bm]
  · exact (hpp.rest.block _ (blk_lt ho) (fun q => q.elim (fun q => Nat.lt_irrefl _ q.2) (fun q => Nat.lt_irrefl _ q.2))).trans ho

end Go.Proofs.Ytegaaobiedfjcaa.PU
