import Derived.Test.YtboalbiicmcljaaZOAn2
import Derived.Test.YtboalbiicmcljaaZOSort
import Derived.Shelf.SlSortCmp.Whole1
import Derived.Shelf.SlSortCmp.NoneTotal
import Derived.Deep.QuietTactic
import Derived.BigQuiet
import Derived.Maps.RangeWalk
namespace Go.Proofs.Ytboalbiicmcljaa.PAN
open Go.RowKit Go.Proofs.YtboalbiicmcljaaW.PrintWords Go.Proofs.YtboalbiicmcljaaW.PrintLast Go.Proofs.YtboalbiicmcljaaW.PrintMore Go.Proofs.YtboalbiicmcljaaH
set_option linter.unusedVariables false
set_option linter.unusedSimpArgs false
section
open Go.Shelf Go.Lib Go.Sort
theorem sw_heap {α : Type} [Inhabited α] {enc : α → Value} {w : World} {g m : Nat} {os : Array Obj} {cur : Array Value} {e : TypeId} {fr : Nat × Nat} (d : Array α) (hb : w.heap[g]? = some (.cells cur e fr)) :
    (sortWorld enc w g 0 m d os).heap[g]? = some (.cells (putCells enc 0 d cur) e fr) := by
  have hg : g < w.heap.size := (Array.getElem?_eq_some_iff.1 hb).1
  unfold sortWorld
  rw [heap_grow_old _ _ (by simpa using hg)]
  simp [putRow, mapBlock, Sort.ahead, Array.getElem?_modify, hb, onCells]
theorem sw_grown {α : Type} [Inhabited α] {enc : α → Value} {w : World} {g m : Nat} {os : Array Obj} (d : Array α) : w.grownBy (sortWorld enc w g 0 m d os) (some g) := by
  refine ⟨rfl, rfl, rfl, by unfold sortWorld; simp, fun k hk hne => ?_⟩
  unfold sortWorld
  rw [heap_grow_old _ _ (by simpa using hk)]
  have : g ≠ k := fun e => hne (by rw [e])
  simp [putRow, mapBlock, Sort.ahead, Array.getElem?_modify, this]
theorem sw_take {α : Type} [Inhabited α] {enc : α → Value} (cur : Array Value) (ts : List α) (h : ts.length ≤ cur.size) : (putCells enc 0 ts.toArray cur).toList.take ts.length = ts.map enc := by
  apply List.ext_getElem?
  intro j
  by_cases hj : j < ts.length
  · rw [List.getElem?_take_of_lt hj, Array.getElem?_toList]
    simp [putCells, hj, show j < cur.size by omega]
  · rw [List.getElem?_take_eq_none (by omega), List.getElem?_eq_none (by simp; omega)]
def clampI (x : Int) : Int := if w64 x then x else 0
def encI (x : Int) : Value := .int .i64 (clampI x)
theorem clamp_of {x : Int} (h : w64 x) : clampI x = x := if_pos h
theorem enc_map {xs : List Int} (h : ∀ x ∈ xs, w64 x) : xs.map encI = encs (Value.int .i64) xs := by
  unfold encs
  exact List.map_congr_left (fun x hx => by unfold encI; rw [clamp_of (h x hx)])
theorem int_holds {e : Nat} {w : World} {base g cap : Nat} {ok : Nat → Prop} {xs : List Int} (h : Kd.R (Kd.int .i64) e w base ok (.slice (some ⟨g, 0, none⟩) xs.length cap) xs) (hw : ∀ x ∈ xs, w64 x) : Holds encI w g 0 xs.toArray := by
  intro j hj
  have hj' : j < xs.length := by simpa using hj
  have h1 := Kd.R_celln 0 h (j : Int) (by omega) (by omega)
  rw [Int.toNat_natCast] at h1
  rw [Nat.zero_add]
  refine ⟨?_, h1.2⟩
  rw [h1.1]
  have e1 : rdOf 0 xs (j : Int) = xs[j] := by simp [rdOf, List.getD_eq_getElem?_getD, List.getElem?_eq_getElem hj']
  have e2 : xs.toArray[j]! = xs[j] := by simp [hj']
  rw [e1, e2]
  unfold encI
  rw [clamp_of (hw _ (List.getElem_mem hj'))]
theorem int_sorted {e : Nat} {w : World} {base g cap m : Nat} {os : Array Obj} {ok : Nat → Prop} {xs ys : List Int} (h : Kd.R (Kd.int .i64) e w base ok (.slice (some ⟨g, 0, none⟩) xs.length cap) xs) (hl : ys.length = xs.length) (hw : ∀ x ∈ ys, w64 x) :
    Kd.R (Kd.int .i64) e (sortWorld encI w g 0 m ys.toArray os) base ok (.slice (some ⟨g, 0, none⟩) ys.length cap) ys := by
  have hok := h.1
  have ho := Kd.own_of_R h
  rcases ho.2 with ⟨q, _⟩ | ⟨g', cap', cur, q, hb, hh, h1, h2, h3, h4⟩
  · cases q
  · injection q with q1 q2 q3
    injection q1 with q1
    injection q1 with q1
    subst q1 q3
    refine Kd.R_of_own ⟨by simp [encs], .inr ⟨g, cap, _, rfl, hb, sw_heap _ hh, by omega, h2, by simp [putCells, h3], ?_⟩⟩ (fun k hk => hok k (by simpa [Value.ownBlock] using hk))
    rw [Nat.mul_one, ← enc_map hw]
    exact sw_take cur ys (by omega)
end
def pk (ms : List Mk) (x : Int) : Nat := placeN ms (-x)
def insB (ms : List Mk) (x : Int) : List Int → List Int
  | [] => [x]
  | y :: r => if pk ms y ≤ pk ms x then x :: y :: r else y :: insB ms x r
def fallL (ms : List Mk) : List Int → List Int
  | [] => []
  | x :: r => insB ms x (fallL ms r)
theorem insB_perm (ms : List Mk) (x : Int) : ∀ l, (insB ms x l).Perm (x :: l)
  | [] => List.Perm.refl _
  | y :: r => by
    rw [insB]
    split
    · exact List.Perm.refl _
    · exact ((insB_perm ms x r).cons y).trans (List.Perm.swap x y r)
theorem fallL_perm (ms : List Mk) : ∀ l, (fallL ms l).Perm l
  | [] => List.Perm.refl _
  | x :: r => (insB_perm ms x _).trans ((fallL_perm ms r).cons x)
theorem insB_sorted (ms : List Mk) (x : Int) : ∀ l, l.Pairwise (fun a b => pk ms b ≤ pk ms a) → (insB ms x l).Pairwise (fun a b => pk ms b ≤ pk ms a)
  | [], _ => by simp [insB]
  | y :: r, h => by
    rw [insB]
    have h1 := List.pairwise_cons.1 h
    split
    · rename_i hc
      exact List.pairwise_cons.2 ⟨fun z hz => by
        rcases List.mem_cons.1 hz with rfl | hz
        · exact hc
        · exact Nat.le_trans (h1.1 z hz) hc, h⟩
    · rename_i hc
      refine List.pairwise_cons.2 ⟨fun z hz => ?_, insB_sorted ms x r h1.2⟩
      rcases List.mem_cons.1 ((insB_perm ms x r).mem_iff.1 hz) with rfl | hz
      · omega
      · exact h1.1 z hz
theorem fallL_sorted (ms : List Mk) : ∀ l, (fallL ms l).Pairwise (fun a b => pk ms b ≤ pk ms a)
  | [] => List.Pairwise.nil
  | x :: r => insB_sorted ms x _ (fallL_sorted ms r)
theorem pk_lt {ms : List Mk} {x : Int} (h : isFalseB ms x = true) : pk ms x < ms.length := placeN_lt.2 (by unfold isFalseB at h; simp at h; exact h.2)
theorem mkOf_get {ms : List Mk} {x : Int} (h : isFalseB ms x = true) : ms[pk ms x]? = some (mkOf ms x) ∧ (mkOf ms x).f0 = -x := by
  have hb : hasM ms (-x) = true := by unfold isFalseB at h; simp at h; exact h.2
  obtain ⟨m, h1, h2⟩ := placeN_get hb
  have e : mkOf ms x = m := by
    unfold mkOf rd_T49
    rw [Int.toNat_natCast, List.getD_eq_getElem?_getD, h1]
    rfl
  rw [e]
  exact ⟨h1, h2⟩
theorem pk_inj {ms : List Mk} {x y : Int} (hx : isFalseB ms x = true) (hy : isFalseB ms y = true) (h : pk ms x = pk ms y) : x = y := by
  obtain ⟨a1, a2⟩ := mkOf_get hx
  obtain ⟨b1, b2⟩ := mkOf_get hy
  rw [h] at a1
  rw [a1] at b1
  injection b1 with b1
  rw [b1, b2] at a2
  omega
theorem fall_unique {ms : List Mk} {l l' : List Int} (hp : l.Perm l') (hf : ∀ x ∈ l, isFalseB ms x = true) (h1 : l.Pairwise (fun a b => pk ms b ≤ pk ms a)) (h2 : l'.Pairwise (fun a b => pk ms b ≤ pk ms a)) : l = l' :=
  List.Perm.eq_of_pairwise (le := fun a b => pk ms b ≤ pk ms a) (fun a b ha hb q1 q2 => pk_inj (hf a ha) (hf b (hp.mem_iff.2 hb)) (Nat.le_antisymm q2 q1)) h1 h2 hp
def nI (x : Int) : Int := IntKind.i64.wrap (-(clampI x))
def plK (ms : List Mk) (x : Int) : Int := if nI x ∈ keysM ms then plF ms (nI x) else 0
def cmpF (ms : List Mk) (x y : Int) : Int := plK ms y - plK ms x
theorem nI_w64 (x : Int) : w64 (nI x) := by
  rw [w64_iff]; unfold nI; rw [IntKind.wrap_i64]; omega
theorem plK_rng {ms : List Mk} (hm : ms.length ≤ 4194304) (x : Int) : 0 ≤ plK ms x ∧ plK ms x ≤ 4194304 := by
  unfold plK plF
  have := placeN_le ms (nI x)
  split <;> omega
theorem plK_of {ms : List Mk} {x : Int} (hx : w64 x) (hf : isFalseB ms x = true) : plK ms x = (pk ms x : Int) := by
  have hb : litB x = true ∧ hasM ms (-x) = true := by unfold isFalseB at hf; simpa using hf
  have e : nI x = -x := by unfold nI; rw [clamp_of hx]; exact (wneg hx hb.1).1
  unfold plK plF pk
  rw [e, if_pos (hasM_mem.1 hb.2)]
theorem cmp_swo (ms : List Mk) : Go.Sort.SWO (Go.Proofs.ltOf (cmpF ms)) where
  irrefl x := by unfold Go.Proofs.ltOf cmpF; simp
  trans x y z h1 h2 := by unfold Go.Proofs.ltOf cmpF at *; simp at *; omega
  ntrans x y z h1 h2 := by unfold Go.Proofs.ltOf cmpF at *; simp at *; omega
set_option maxHeartbeats 2000000 in
set_option maxRecDepth 100000 in
theorem an_cmp (cb sb tb pb : Nat) (ms : List Mk) (x y : Int) (W : World) (h1 : W.cell? ⟨cb, 0, none⟩ = some (.pointer (some ⟨sb, 0, none⟩))) (h2 : W.cell? ⟨sb, 0, none⟩ = some (.pointer (some ⟨tb, 0, none⟩))) (h : Pl W tb pb ms) (hm : ms.length ≤ 4194304) :
    Calls Try.prog 73 #[encI x, encI y, .pointer (some ⟨cb, 0, none⟩)] W fun e w' => e = .returned (.int .i64 (cmpF ms x y)) ∧ ∃ q, w' = W.drewN q := by
  have c2 := h.c2
  have r1 : ∀ n, (Instr.lookup 63 (.map (some pb)) (.int .i64 (nI x)) false).run Try.prog (W.drewN n) = .ok (.int .i64 (plK ms x)) (W.drewN n) := fun n => (h.drewN n).map.run_look Try.underlying63 Try.underlying3 zero3 (nI_w64 x)
  have r2 : ∀ n, (Instr.lookup 63 (.map (some pb)) (.int .i64 (nI y)) false).run Try.prog (W.drewN n) = .ok (.int .i64 (plK ms y)) (W.drewN n) := fun n => (h.drewN n).map.run_look Try.underlying63 Try.underlying3 zero3 (nI_w64 y)
  have p1 := plK_rng hm x
  have p2 := plK_rng hm y
  unfold cmpF encI
  obtain ⟨a, ha⟩ : ∃ a, a = plK ms x := ⟨_, rfl⟩
  obtain ⟨b, hb⟩ : ∃ b, b = plK ms y := ⟨_, rfl⟩
  rw [← ha] at r1 p1 ⊢
  rw [← hb] at r2 p2 ⊢
  have e1 : IntKind.i64.wrap (-(clampI x)) = nI x := rfl
  have e2 : IntKind.i64.wrap (-(clampI y)) = nI y := rfl
  have e3 : IntKind.i64.wrap (b - a) = b - a := IntWalk.i64_in _ (by omega)
  generalize nI x = nx at r1 e1
  generalize nI y = ny at r2 e2
  generalize clampI x = cx at e1 ⊢
  generalize clampI y = cy at e2 ⊢
  clear h ha hb p1 p2 hm
  go_enter Try.func73, Try.ntmps73
  go_wp2
  go_quiet (fail)
  go_wp2
  go_ret
  exact ⟨rfl, _, rfl⟩
structure SeP (w : World) (ok : Nat → Prop) (sb tb mb : Nat) (vch : Value) (s ch : List Int) : Prop where
  og : ok sb
  om : ok mb
  blk : w.heap[sb]? = some (.cells #[.pointer (some ⟨tb, 0, none⟩), .map (some mb), vch] 65 (0, 0))
  map : IsMapF Try.prog 3 w mb s (fun _ => 1)
  rch : Kd.R (Kd.int .i64) 3 w 0 (fun k => ok k ∧ k ≠ sb ∧ k ≠ mb) vch ch
def Se (w : World) (ok : Nat → Prop) (sb tb : Nat) (s ch : List Int) : Prop := ∃ mb vch, SeP w ok sb tb mb vch s ch
theorem SeP.step {w w1 : World} {ok : Nat → Prop} {sb tb mb : Nat} {vch : Value} {s ch : List Int} (h : SeP w ok sb tb mb vch s ch) (hm : ∀ k, ok k → k < w.heap.size → w1.heap[k]? = w.heap[k]?) : SeP w1 ok sb tb mb vch s ch :=
  ⟨h.og, h.om, (hm _ h.og (blk_lt h.blk)).trans h.blk, h.map.step (hm _ h.om h.map.lt), Kd.R_step h.rch (fun k hk => hm k hk.1)⟩
theorem SeP.mono {w : World} {ok ok' : Nat → Prop} {sb tb mb : Nat} {vch : Value} {s ch : List Int} (h : SeP w ok sb tb mb vch s ch) (hk : ∀ k, ok k → ok' k) : SeP w ok' sb tb mb vch s ch :=
  ⟨hk _ h.og, hk _ h.om, h.blk, h.map, Kd.R_mono h.rch (fun k q => ⟨hk k q.1, q.2⟩)⟩
theorem SeP.bound {w : World} {ok : Nat → Prop} {sb tb mb : Nat} {vch : Value} {s ch : List Int} (h : SeP w ok sb tb mb vch s ch) : SeP w (fun k => ok k ∧ k < w.heap.size) sb tb mb vch s ch :=
  ⟨⟨h.og, blk_lt h.blk⟩, ⟨h.om, h.map.lt⟩, h.blk, h.map, Kd.R_mono (Kd.R_bound h.rch) (fun k q => ⟨⟨q.1.1, q.2.2.1⟩, q.1.2⟩)⟩
theorem Se.step {w w1 : World} {ok : Nat → Prop} {sb tb : Nat} {s ch : List Int} (h : Se w ok sb tb s ch) (hm : ∀ k, ok k → k < w.heap.size → w1.heap[k]? = w.heap[k]?) : Se w1 ok sb tb s ch := by
  obtain ⟨a, b, h⟩ := h; exact ⟨a, b, h.step hm⟩
theorem Se.below {w w1 : World} {ok : Nat → Prop} {sb tb : Nat} {s ch : List Int} (h : Se w ok sb tb s ch) (hb : Below w.heap.size w w1) : Se w1 ok sb tb s ch := h.step (fun k _ hk => hb.block k hk)
theorem Se.mono {w : World} {ok ok' : Nat → Prop} {sb tb : Nat} {s ch : List Int} (h : Se w ok sb tb s ch) (hk : ∀ k, ok k → ok' k) : Se w ok' sb tb s ch := by
  obtain ⟨a, b, h⟩ := h; exact ⟨a, b, h.mono hk⟩
theorem Se.bound {w : World} {ok : Nat → Prop} {sb tb : Nat} {s ch : List Int} (h : Se w ok sb tb s ch) : Se w (fun k => ok k ∧ k < w.heap.size) sb tb s ch := by
  obtain ⟨a, b, h⟩ := h; exact ⟨a, b, h.bound⟩
theorem Se.congr {w : World} {ok : Nat → Prop} {sb tb : Nat} {s s' ch : List Int} (h : Se w ok sb tb s ch) (hp : s.Perm s') : Se w ok sb tb s' ch := by
  obtain ⟨a, b, h⟩ := h; exact ⟨a, b, h.og, h.om, h.blk, h.map.congr hp (fun _ _ => rfl), h.rch⟩
theorem Tr.below {w w1 : World} {L tb : Nat} {cs : List (List Int)} {ms : List Mk} (h : Tr w L tb cs ms) (hb : Below L w w1) : Tr w1 L tb cs ms := by
  obtain ⟨hl, A0, c0, A1, c1, pb, h1, h2, h3, h4, h5, h6, h7, h8, h9⟩ := h
  have ht : ∀ w', Below L w1 w' → Below L w w' := fun w' q => ⟨q.os.trans hb.os, q.tape.trans hb.tape, q.output.trans hb.output, Nat.le_trans hb.size q.size, fun k hk => (q.block k hk).trans (hb.block k hk)⟩
  exact ⟨Nat.le_trans hl hb.size, A0, c0, A1, c1, pb, h1, h2, (hb.block _ h1).trans h3, h4, h5, h6.step (hb.block _ h2), fun w' q => h7 w' (ht w' q), fun w' q => h8 w' (ht w' q), h9⟩
structure Rest (w w' : World) (ok : Nat → Prop) : Prop where
  os : w'.os = w.os
  tape : w'.tape = w.tape
  output : w'.output = w.output
  size : w.heap.size ≤ w'.heap.size
  block : ∀ k, k < w.heap.size → ¬ ok k → w'.heap[k]? = w.heap[k]?
theorem Rest.refl (w : World) (ok : Nat → Prop) : Rest w w ok := ⟨rfl, rfl, rfl, Nat.le_refl _, fun _ _ _ => rfl⟩
theorem Rest.of_below {w w' : World} (h : Below w.heap.size w w') (ok : Nat → Prop) : Rest w w' ok := ⟨h.os, h.tape, h.output, h.size, fun k hk _ => h.block k hk⟩
theorem Rest.grown {w w1 w2 : World} {ok : Nat → Prop} (h : Rest w w1 ok) {row : Option Nat} (hg : w1.grownBy w2 row) (hr : ∀ k, row = some k → k < w.heap.size → ok k) : Rest w w2 ok :=
  ⟨hg.os.trans h.os, hg.tape.trans h.tape, hg.output.trans h.output, Nat.le_trans h.size hg.size, fun k hk hn => (hg.block k (Nat.lt_of_lt_of_le hk h.size) (fun e => hn (hr k e.symm hk))).trans (h.block k hk hn)⟩
theorem Rest.trans {w w1 w2 : World} {ok ok2 : Nat → Prop} (h : Rest w w1 ok) (h2 : Rest w1 w2 ok2) (hk : ∀ k, k < w.heap.size → ok2 k → ok k) : Rest w w2 ok :=
  ⟨h2.os.trans h.os, h2.tape.trans h.tape, h2.output.trans h.output, Nat.le_trans h.size h2.size, fun k hl hn => (h2.block k (Nat.lt_of_lt_of_le hl h.size) (fun e => hn (hk k hl e))).trans (h.block k hl hn)⟩
theorem Rest.set {w w1 : World} {ok : Nat → Prop} (h : Rest w w1 ok) {p : Addr} (hp : p.block < w.heap.size → ok p.block) (u : Value) : Rest w (w1.setCell p u) ok :=
  ⟨h.os, h.tape, h.output, by simpa [World.setCell] using h.size, fun k hk hn => (Below.heap_setCell w1 p u k (fun e => hn (by rw [e]; exact hp (e ▸ hk)))).trans (h.block k hk hn)⟩
theorem Rest.drewN {w w1 : World} {ok : Nat → Prop} (h : Rest w w1 ok) (n : Nat) : Rest w (w1.drewN n) ok := h.trans (Rest.of_below (pw_below_drewN (Below.refl _ _) n) ok) (fun _ _ h => h)
theorem Rest.then_below {w w1 w2 : World} {ok : Nat → Prop} (h : Rest w w1 ok) (hb : Below w1.heap.size w1 w2) : Rest w w2 ok := h.trans (Rest.of_below hb (fun _ => False)) (fun _ _ q => q.elim)
theorem Rest.belowL {w w1 : World} {ok : Nat → Prop} (h : Rest w w1 ok) {L : Nat} (hL : L ≤ w.heap.size) (hk : ∀ k, ok k → L ≤ k) : Below L w w1 :=
  ⟨h.os, h.tape, h.output, h.size, fun k q => h.block k (Nat.lt_of_lt_of_le q hL) (fun e => by have := hk k e; omega)⟩
theorem below_L {w w1 : World} (h : Below w.heap.size w w1) {L : Nat} (hL : L ≤ w.heap.size) : Below L w w1 := ⟨h.os, h.tape, h.output, h.size, fun k q => h.block k (Nat.lt_of_lt_of_le q hL)⟩
theorem info_int : (Try.prog.info? 3).map (fun i => (i.zero, i.size, i.bytes)) = some (some (.int .i64 0), 1, 8) := by kernel_rfl
def AllF (ms : List Mk) (s : List Int) : Prop := ∀ x ∈ s, isFalseB ms x = true
theorem len_of_falses {ms : List Mk} {s : List Int} (hn : s.Nodup) (hf : AllF ms s) : s.length ≤ ms.length := by
  have h1 : (s.map (pk ms)).Nodup := by
    refine List.pairwise_map.2 (hn.imp_of_mem ?_)
    intro a b ha hb hne e
    exact hne (pk_inj (hf a ha) (hf b hb) e)
  have h2 : ∀ x ∈ s.map (pk ms), x ∈ List.range ms.length := by
    intro x hx
    obtain ⟨y, hy, rfl⟩ := List.mem_map.1 hx
    exact List.mem_range.2 (pk_lt (hf y hy))
  have h3 : (s.map (pk ms)).length ≤ (List.range ms.length).length := by
    generalize s.map (pk ms) = l at h1 h2
    generalize List.range ms.length = r at h2
    clear hf hn
    induction l generalizing r with
    | nil => simp
    | cons x l ih =>
      have hx := h2 x List.mem_cons_self
      have h4 := ih (List.nodup_cons.1 h1).2 (r.erase x) (fun y hy => (List.mem_erase_of_ne (fun (q : y = x) => (List.nodup_cons.1 h1).1 (by rw [← q]; exact hy))).2 (h2 y (List.mem_cons_of_mem _ hy)))
      rw [List.length_erase_of_mem hx] at h4
      have := List.length_pos_of_mem hx
      rw [List.length_cons]
      omega
  simpa using h3
structure FallI (w : World) (sb : Nat) (w' : World) (v : Value) (done : List Int) : Prop where
  b : Below w.heap.size w w'
  box : w'.heap[w.heap.size]? = some (.cells #[.pointer (some ⟨sb, 0, none⟩)] 62 (0, 0))
  rv : Kd.R (Kd.int .i64) 3 w' w.heap.size (fun k => k ≠ w.heap.size + 1) v done
theorem R_sorted_int {ms : List Mk} {s done ys : List Int} (hp : done.Perm s) (hw : ∀ x ∈ s, w64 x) (hf : AllF ms s) (h1 : ys.Perm done) (h2 : ys.Pairwise (fun a b => plK ms b ≤ plK ms a)) : ys = fallL ms s := by
  have hps := h1.trans hp
  refine fall_unique (hps.trans (fallL_perm ms s).symm) (fun x hx => hf x (hps.mem_iff.1 hx)) ?_ (fallL_sorted ms s)
  refine h2.imp_of_mem ?_
  intro a b ha hb hab
  have ha' := hps.mem_iff.1 ha
  have hb' := hps.mem_iff.1 hb
  rw [plK_of (hw a ha') (hf a ha'), plK_of (hw b hb') (hf b hb')] at hab
  omega
theorem perm_of_in {d d' : Array Int} (h : Go.Sort.PermIn 0 d.size d d') : d'.toList.Perm d.toList := by
  have h3 := h.2.2
  have e1 : d.extract 0 d.size = d := by simp
  have e2 : d'.extract 0 d.size = d' := by rw [← h.1]; simp
  rw [e1, e2] at h3
  exact h3
theorem pairwise_of_in {ms : List Mk} {d : Array Int} {n : Nat} (hn : d.size = n) (h : Go.Sort.SortedIn (Go.Proofs.ltOf (cmpF ms)) 0 n d) : d.toList.Pairwise (fun a b => plK ms b ≤ plK ms a) := by
  rw [List.pairwise_iff_getElem]
  intro i j hi hj hij
  have h1 := h i j (Nat.zero_le _) hij (by rw [← hn]; simpa using hj)
  have ei : d[i]! = d.toList[i] := by have : i < d.size := by simpa using hi
                                      simp [this]
  have ej : d[j]! = d.toList[j] := by have : j < d.size := by simpa using hj
                                      simp [this]
  rw [ei, ej] at h1
  unfold Go.Proofs.ltOf cmpF at h1
  simp at h1
  simpa using h1
theorem an_sortcall (L tb sb mb : Nat) (cs : List (List Int)) (ms : List Mk) (ok : Nat → Prop) (vch v : Value) (s ch done : List Int) (w wr : World) (hT : Tr w L tb cs ms) (hS : SeP w ok sb tb mb vch s ch) (hf : AllF ms s) (hm : ms.length ≤ 4194304) (hl : s.length ≤ ms.length) (hI : FallI w sb wr v done) (hp : done.Perm s) :
    Calls Try.prog 72 #[v, .func (.func 73) #[] #[.pointer (some ⟨w.heap.size, 0, none⟩)]] wr fun e w' => e = .returned (.tuple #[]) ∧ Kd.R (Kd.int .i64) 3 w' w.heap.size (fun k => k ≠ w.heap.size + 1) v (fallL ms s) ∧ Below w.heap.size w w' := by
  have hlen := hp.length_eq
  rcases Nat.eq_zero_or_pos done.length with h0 | hpos
  · have hd : done = [] := List.eq_nil_of_length_eq_zero h0
    subst hd
    have hs : s = [] := List.eq_nil_of_length_eq_zero (by rw [← hlen]; rfl)
    subst hs
    obtain ⟨A, c, rfl⟩ := Kd.R_slice hI.rv
    refine (AnyF.slices_SortFunc_none { Go.Proofs.Try.sortI with } A c _ wr).mono ?_
    rintro e w' ⟨rfl, rfl⟩
    exact ⟨rfl, hI.rv, hI.b⟩
  · obtain ⟨g, cap, rfl, hg1, hg2, cells, hg3⟩ := Kd.R_form hI.rv hpos
    have hgb : g ≠ w.heap.size := by
      rintro rfl
      have := hI.box
      rw [hg3] at this
      injection this with this
      injection this with _ this
      exact absurd this (by decide)
    have hw : ∀ x ∈ s, w64 x := fun x hx => (hS.map.wf x hx).1
    have hwd : ∀ x ∈ done, w64 x := fun x hx => hw x (hp.mem_iff.1 hx)
    obtain ⟨_, A0, c0, A1, c1, pb, h1, h2, h3, h4, h5, h6, h7, h8, _⟩ := hT
    have hkept : ∀ (m : Nat) (os : Array Obj) (dk : Array Int) (k : Nat), k < w.heap.size → (sortWorld encI wr g 0 m dk os).heap[k]? = w.heap[k]? := fun m os dk k hk =>
      ((sw_grown dk).block k (Nat.lt_of_lt_of_le hk hI.b.size) (by intro e; injection e with e; omega)).trans (hI.b.block k hk)
    have hcmp : CmpReads Try.prog 73 #[.pointer (some ⟨w.heap.size, 0, none⟩)] encI (cmpF ms) g 0 done.toArray.size wr := by
      intro m os dk hdk x y
      refine an_cmp w.heap.size sb tb pb ms x y _ ?_ ?_ ⟨?_, ?_⟩ hm
      · exact blk_cell (((sw_grown dk).block _ (blk_lt hI.box) (by intro e; injection e with e; exact hgb e.symm)).trans hI.box) 0
      · exact blk_cell ((hkept m os dk sb (blk_lt hS.blk)).trans hS.blk) 0
      · exact blk_cell ((hkept m os dk tb (blk_lt h3)).trans h3) 2
      · exact h6.step (hkept m os dk pb h6.lt)
    have eg : ∀ args w, (callFunc 73 args).run Try.prog w = .ok (.enter 73 args) w := enters_of Try.func73 (by kernel_rfl) rfl
    have hcon := Any.slices_SortFunc Go.Proofs.Try.sortI encI (fun _ => rfl) (cmpF ms) (cmp_swo ms) 73 #[.pointer (some ⟨w.heap.size, 0, none⟩)] g 0 cap done.toArray wr eg hcmp.lays (int_holds hI.rv hwd) hg2 (by simp; omega)
    have hsz : done.toArray.size = done.length := by simp
    rw [hsz] at hcon
    refine Calls.mono (f := 72) hcon ?_
    rintro e w' ⟨rfl, d', n, os, hp', hs', rfl⟩
    have hperm : d'.toList.Perm done := by have := perm_of_in (d := done.toArray) (by rw [hsz]; exact hp'); simpa using this
    have hy := R_sorted_int hp hw hf hperm (pairwise_of_in (by rw [hp'.1]; simp) hs')
    have hl2 : d'.toList.length = done.length := hperm.length_eq
    refine ⟨rfl, ?_, ?_⟩
    · have := int_sorted (m := n) (os := os) (ys := d'.toList) hI.rv hl2 (fun x hx => hwd x (hperm.mem_iff.1 hx))
      rw [hy] at this
      have e1 : (fallL ms s).length = done.length := by rw [← hy]; exact hl2
      rw [e1] at this
      have e2 : d' = (fallL ms s).toArray := by rw [← hy]
      rw [e2]
      exact this
    · exact ⟨(sw_grown d').os.trans hI.b.os, (sw_grown d').tape.trans hI.b.tape, (sw_grown d').output.trans hI.b.output, Nat.le_trans hI.b.size (sw_grown d').size, fun k hk => hkept n os d' k hk⟩
set_option maxHeartbeats 8000000 in
set_option maxRecDepth 100000 in
theorem an_falling (L tb sb : Nat) (cs : List (List Int)) (ms : List Mk) (ok : Nat → Prop) (s ch : List Int) (w : World) (hT : Tr w L tb cs ms) (hS : Se w ok sb tb s ch) (hf : AllF ms s) (hm : ms.length ≤ 4194304) :
    Calls Try.prog 58 #[.pointer (some ⟨sb, 0, none⟩)] w fun e w' => ∃ v, e = .returned v ∧ Kd.R (Kd.int .i64) 3 w' w.heap.size (fun _ => True) v (fallL ms s) ∧ Below w.heap.size w w' := by
  obtain ⟨mb, vch, hS⟩ := hS
  have HT := Aside0.mk hT
  have HS := Aside0.mk hS
  have HF := Aside0.mk hf
  have hlen := len_of_falses hS.map.nodup hf
  have HLM := Aside0.mk (And.intro hlen hm)
  have c1 : ∀ o : Obj, (w.alloc o).cell? ⟨sb, 1, none⟩ = some (.map (some mb)) := fun o => blk_cell (((below_alloc (Below.refl w.heap.size w) o).block _ (blk_lt hS.blk)).trans hS.blk) 1
  have hsb := blk_lt hS.blk
  have HSB := Aside0.mk hsb
  have hmk : ∀ (fn : Fn) (first cap : Array Value) (w : World), (Instr.makeFunc fn first cap).run Try.prog w = .ok (.func fn first cap) w := fun _ _ _ _ => rfl
  clear hT hS hf hlen hm hsb
  go_enter Try.func58, Try.ntmps58
  have hmp1 : IsMapF Try.prog 3 (w.alloc (.cells #[.pointer (some ⟨sb, 0, none⟩)] 62)) mb s (fun _ => 1) := HS.out.map.step ((below_alloc (Below.refl w.heap.size w) _).block _ HS.out.map.lt)
  have HMP := Aside0.mk hmp1
  clear hmp1
  go_wp2_with (at_range; refine wpList_range_F _ rfl _ 63 rfl 3 Try.underlying63 Try.underlying3 mb s (fun _ => 1) rfl HMP.out ?_; intro w1 hr1 hg1 hs1)
  go_frame
  have hi0 : FallI w sb w1 (.slice none 0 0) [] ∧ RangesF Try.prog 3 w1 mb (w.heap.size + 1) s (fun _ => 1) [] := by
    have hb0 := below_alloc (Below.refl w.heap.size w) (.cells #[.pointer (some ⟨sb, 0, none⟩)] 62)
    have hsz : (w.alloc (.cells #[.pointer (some ⟨sb, 0, none⟩)] 62)).heap.size = w.heap.size + 1 := by simp
    refine ⟨⟨hb0.grown hg1 (by omega) (fun j hj => by cases hj), (hg1.block _ (by omega) (by simp)).trans (heap_alloc_new _ _), Kd.R_nil _ _ _ _ _⟩, ?_⟩
    have := hr1
    rwa [hsz] at this
  have HI0 := Aside0.mk hi0
  have hiter : w.heap.size + 1 = (w.alloc (.cells #[.pointer (some ⟨sb, 0, none⟩)] 62)).heap.size := by simp
  rw [← hiter]
  clear hr1 hg1 hs1 hi0 hiter c1
  go_loopg [3] s.length (fun kq v3 w' => ∃ done, kq + done.length = s.length ∧ Aside0 (FallI w sb w' v3 done ∧ RangesF Try.prog 3 w' mb (w.heap.size + 1) s (fun _ => 1) done))
  case atStart => exact ⟨[], by simp, HI0⟩
  case round =>
    obtain ⟨done, hkd, HI⟩ := hrel
    clear HI0
    have hwl : w.heap.size < wr.heap.size := blk_lt HI.out.1.box
    have HWL := Aside0.mk hwl
    go_wp2_with (at_next; refine wpList_next_F _ rfl _ rfl 3 Try.underlying3 mb (w.heap.size + 1) s (fun _ => 1) done rfl HI.out.2 ?_ ?_)
    · intro hp
      have HSORT := Aside0.mk (an_sortcall L tb sb mb cs ms ok vch u3 s ch done w wr HT.out HS.out HF.out HLM.out.2 HLM.out.1 HI.out.1 hp)
      clear hp
      go_wp2_with (go_at_call 72; refine HSORT.out.mono ?_; rintro e w4 ⟨rfl, hr4, hb4⟩; have H4 := Aside0.mk (And.intro hr4 hb4); clear hr4 hb4)
      go_ret
      exact ⟨_, rfl, Kd.R_mono H4.out.1 (fun _ _ => trivial), H4.out.2⟩
    · intro x w2 hx hxs hxd hrg hgr hsz hen
      cases gk with
      | zero =>
        exfalso
        have h1 := hrg.le
        rw [List.length_append, List.length_singleton] at h1
        omega
      | succ k1 =>
        have hI2 : FallI w sb w2 u3 done :=
          ⟨HI.out.1.b.grown hgr HI.out.1.b.size (fun j hj => by injection hj with hj; omega), (hgr.block _ hwl (by intro e; injection e with e; omega)).trans HI.out.1.box, Kd.R_grown HI.out.1.rv hgr (fun k hk e => hk (by injection e))⟩
        have HI2 := Aside0.mk (And.intro hI2 hrg)
        have HLEN := Aside0.mk hrg.le
        have HEN := Aside0.mk hen
        clear hI2 hrg hgr hsz hxs hxd hx
        have hal : done.length + 1 ≤ 4194304 := by have h1 := HLEN.out; rw [List.length_append, List.length_singleton] at h1; have := HLM.out; omega
        have HAL := Aside0.mk hal
        clear hal
        go_wp2_with (at_builtin; refine Kd.R_append (Kd.int .i64) (w0 := w) w.heap.size rfl (.tmp 14) (.tmp 16) 27 3 (.int .i64 0) 8 rfl Try.underlying27 info_int rfl (by decide) (by omega) u3 done x [.int .i64 x] (fun k => k ≠ w.heap.size + 1) (fun _ => False) rfl rfl ?aP (fun _ hk => hk.elim) ?aF HI2.out.1.rv HI2.out.1.b HI2.out.1.b.size ?aL ?_; (case aP => exact rfl); (case aF => exact fun k hk => by have := HI2.out.2.lt; omega); (case aL => have := HAL.out; omega); intro v4 w4 ho hb hg hat; have H4 := Aside0.mk (And.intro ho (And.intro hb hg)); clear ho hb hg hat)
        have hI4 : FallI w sb w4 v4 (done ++ [x]) := ⟨H4.out.2.1, (H4.out.2.2.block _ (blk_lt HI2.out.1.box) (Kd.R_ne HI2.out.1.rv HI2.out.1.box (by decide))).trans HI2.out.1.box, H4.out.1⟩
        have hne : some (w.heap.size + 1) ≠ u3.ownBlock := Kd.R_away HI2.out.1.rv (fun k hk => hk)
        have hnm : some mb ≠ u3.ownBlock := fun e => by have h1 := Kd.R_base HI2.out.1.rv mb e.symm; have := HS.out.map.lt; omega
        have HI4 := Aside0.mk (And.intro hI4 (HI2.out.2.step (H4.out.2.2.block _ HI2.out.2.map.lt hnm) (H4.out.2.2.block _ HI2.out.2.lt hne)))
        clear hI4 hne hnm
        go_roundg k1
        case measure => omega
        case rel => exact ⟨done ++ [x], by simp; omega, HI4⟩
end Go.Proofs.Ytboalbiicmcljaa.PAN
