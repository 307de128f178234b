import Derived.Test.YtocmldppefjbgaaHp9
import Derived.Test.YtocmldppefjbgaaSort
import Derived.Shelf.SlSortCmp.Whole1
import Derived.Shelf.SlSortCmp.NoneTotal
namespace Go.Proofs.Ytocmldppefjbgaa.PHP
open Go.RowKit Go.Proofs.YtocmldppefjbgaaW.PrintWords Go.Proofs.YtocmldppefjbgaaW.PrintLast Go.Proofs.YtocmldppefjbgaaW.PrintMore Go.Proofs.YtocmldppefjbgaaH
set_option linter.unusedVariables false
set_option linter.unusedSimpArgs false
section
variable {w : World} {ok : Nat → Prop} {g n : Nat} {l : List Int} {sc : List Nat} {st : Nat}
set_option maxRecDepth 100000 in
set_option maxHeartbeats 4000000 in
theorem hs_Decay (h : HS w ok g n l sc st) : Calls Try.prog 43 #[.pointer (some ⟨g, 0, none⟩)] w fun e w' => ∃ l' sc' st', e = .returned (.tuple #[]) ∧ HS w' (fun k => ok k ∨ w.heap.size ≤ k) g n l' sc' st' ∧ (∀ x, x ∈ l' ↔ x ∈ l) ∧ Rest w w' ok := by
  have H := Aside0.mk h
  have HN := Aside0.mk (And.intro h.len h.cap)
  obtain ⟨hb, gs, gp, vl, pl, h1, h2⟩ := h.ex
  obtain ⟨q, hq, hq0, hq1⟩ := fade_words h.st0 h.st1
  have HQ := Aside0.mk (And.intro hq0 hq1)
  have rq := fun W => run_quo hq W
  have sf := run_store_float
  have c5 := h1.c 5
  have f5 := h1.f 5
  have HM1 := Aside0.mk (And.intro (h1.setst q) h2)
  have HR1 : Aside0 (Rest w (w.setCell ⟨g, 5, none⟩ (.float .f64 q)) ok) := ⟨(Rest.refl w ok).set (p := ⟨g, 5, none⟩) (fun _ => h1.og) _⟩
  have HTW : Aside0 (∀ x ∈ sc, x ≤ twice) := ⟨fun x hx => Nat.le_trans (h.sc x hx) (by decide +kernel)⟩
  have rg := great_ord (Nat.lt_of_le_of_lt hq1 twice_inf)
  clear h h1 h2 hq hq0 hq1
  cases hgt : decide (great < q) with
  | true =>
    rw [hgt] at rg
    have HGT := Aside0.mk (of_decide_eq_true hgt)
    clear hgt
    go_enter Try.func43, Try.ntmps43
    go_upto_region 1 with fail
    obtain ⟨w1, hw1⟩ : ∃ w', w' = w.setCell ⟨g, 5, none⟩ (.float .f64 q) := ⟨_, rfl⟩
    rw [← hw1] at HM1 HR1 ⊢
    clear hw1 c5 f5 rq sf
    have c5 := HM1.out.1.c 5
    go_wp2_with (go_at_call 56; go_loud (refine (hp_lessen HM1.out.1 HM1.out.2 HTW.out HQ.out.2 (Nat.le_trans half_great (Nat.le_of_lt HGT.out)) (by rw [HN.out.1]; exact HN.out.2)).mono ?_; rintro e w9 ⟨rfl, l9, sc9, st9, a1, a2, a3⟩; have HA := Aside0.mk (And.intro a1 (And.intro a2 a3)); clear a1 a2 a3))
    go_end0
    obtain ⟨a1, a2, a3⟩ := HA.out
    rw [HN.out.1] at a1
    exact ⟨l9, sc9, st9, rfl, a1.mono (fun k z => z.imp id (fun z => Nat.le_trans HR1.out.size z)), a2, HR1.out.trans a3 (fun _ _ z => z)⟩
  | false =>
    rw [hgt] at rg
    have HGT := Aside0.mk (of_decide_eq_false hgt)
    clear hgt
    go_enter Try.func43, Try.ntmps43
    go_upto_region 1 with fail
    obtain ⟨w1, hw1⟩ : ∃ w', w' = w.setCell ⟨g, 5, none⟩ (.float .f64 q) := ⟨_, rfl⟩
    rw [← hw1] at HM1 HR1 ⊢
    clear hw1 c5 f5 rq sf
    have c5 := HM1.out.1.c 5
    go_wp2_with fail
    go_end0
    exact ⟨l, sc, q, rfl, ⟨⟨hb, gs, gp, vl, pl, HM1.out.1.mono (fun k z => .inl z), HM1.out.2⟩, H.out.hp, HN.out.1, HN.out.2, H.out.sc, HQ.out.1, by have := HGT.out; omega⟩, fun x => Iff.rfl, HR1.out⟩
end
theorem hs_New_low (n : Int) (w : World) (h0 : n < 0) : Calls Try.prog 15 #[.int .i64 n] w fun e w' => e = .returned (.tuple #[.pointer none, .int .i64 1]) ∧ w = w' := by
  go_enter Try.func15, Try.ntmps15
  go_wp2
  go_ret2
  exact ⟨rfl, rfl⟩
theorem hs_New_high (n : Int) (w : World) (h0 : 1048576 < n) : Calls Try.prog 15 #[.int .i64 n] w fun e w' => e = .returned (.tuple #[.pointer none, .int .i64 2]) ∧ w = w' := by
  have d0 : decide (n < 0) = false := decide_eq_false (by omega)
  go_enter Try.func15, Try.ntmps15
  go_wp2
  go_ret2
  exact ⟨rfl, rfl⟩
theorem hs_New (n : Nat) (w : World) (h1 : n ≤ 1048576) : Calls Try.prog 15 #[.int .i64 (n : Int)] w fun e w' => ∃ g, e = .returned (.tuple #[.pointer (some ⟨g, 0, none⟩), .int .i64 0]) ∧ HS w' (fun k => w.heap.size ≤ k) g n [] (List.replicate n 0) one ∧ Below w.heap.size w w' := by
  have HN := Aside0.mk h1
  have d0 : ¬ ((n : Int) < 0) := by omega
  have d1 : ¬ (1048576 < n) := by omega
  have d2 : ¬ (1048576 < (n : Int)) := by omega
  clear h1
  go_enter Try.func15, Try.ntmps15
  go_wp2_with (go_at_call 41; go_loud (refine (hm_made n w HN.out).mono ?_; rintro e w2 ⟨g, rfl, hst, hb⟩; have HA := Aside0.mk (And.intro hst hb); clear hst hb))
  go_ret2
  exact ⟨g, rfl, HA.out.1, HA.out.2⟩
/-! ### Order -/
section
open Go.Shelf Go.Lib Go.Sort
def clS (s : List Int) (x : Int) : Int := if x ∈ s then x else s.headD 0
def encS (s : List Int) (x : Int) : Value := .int .i64 (clS s x)
def cmpH (sc : List Nat) (s : List Int) (x y : Int) : Int := if ah sc (clS s x) (clS s y) = true then -1 else 1
theorem clS_mem {s : List Int} (hs : s ≠ []) (x : Int) : clS s x ∈ s := by
  unfold clS
  split
  · assumption
  · cases s with
    | nil => exact absurd rfl hs
    | cons a r => simp
theorem clS_of {s : List Int} {x : Int} (h : x ∈ s) : clS s x = x := if_pos h
theorem lt_cmpH (sc : List Nat) (s : List Int) (x y : Int) : Go.Proofs.ltOf (cmpH sc s) x y = ah sc (clS s x) (clS s y) := by
  unfold Go.Proofs.ltOf cmpH
  cases ah sc (clS s x) (clS s y) <;> simp
theorem cmpH_swo (sc : List Nat) (s : List Int) : SWO (Go.Proofs.ltOf (cmpH sc s)) where
  irrefl x := by rw [lt_cmpH]; exact Bool.eq_false_iff.2 ah_irr
  trans x y z h1 h2 := by rw [lt_cmpH] at *; exact ah_trans h1 h2
  ntrans x y z h1 h2 := by
    rw [lt_cmpH] at *
    rw [Bool.eq_false_iff] at *
    intro h3
    rw [ne_eq, ah_iff] at h1 h2
    rw [ah_iff] at h3
    omega
theorem encS_map {s xs : List Int} (h : ∀ x ∈ xs, x ∈ s) : xs.map (encS s) = encs (Value.int .i64) xs := by
  unfold encs
  exact List.map_congr_left (fun x hx => by unfold encS; rw [clS_of (h x hx)])
theorem sw_heap {α : Type} [Inhabited α] {enc : α → Value} {w : World} {g m : Nat} {os : Array Obj} {cur : Array Value} {e : TypeId} {fr : Nat × Nat} (d : Array α) (hb : w.heap[g]? = some (.cells cur e fr)) :
    (sortWorld enc w g 0 m d os).heap[g]? = some (.cells (putCells enc 0 d cur) e fr) := by
  have hg : g < w.heap.size := (Array.getElem?_eq_some_iff.1 hb).1
  unfold sortWorld
  rw [heap_grow_old _ _ (by simpa using hg)]
  simp [putRow, mapBlock, Sort.ahead, Array.getElem?_modify, hb, onCells]
theorem sw_grown {α : Type} [Inhabited α] {enc : α → Value} {w : World} {g m : Nat} {os : Array Obj} (d : Array α) : w.grownBy (sortWorld enc w g 0 m d os) (some g) := by
  refine ⟨rfl, rfl, rfl, by unfold sortWorld; simp, fun k hk hne => ?_⟩
  unfold sortWorld
  rw [heap_grow_old _ _ (by simpa using hk)]
  have : g ≠ k := fun e => hne (by rw [e])
  simp [putRow, mapBlock, Sort.ahead, Array.getElem?_modify, this]
theorem sw_take {α : Type} [Inhabited α] {enc : α → Value} (cur : Array Value) (ts : List α) (h : ts.length ≤ cur.size) : (putCells enc 0 ts.toArray cur).toList.take ts.length = ts.map enc := by
  apply List.ext_getElem?
  intro j
  by_cases hj : j < ts.length
  · rw [List.getElem?_take_of_lt hj, Array.getElem?_toList]
    simp [putCells, hj, show j < cur.size by omega]
  · rw [List.getElem?_take_eq_none (by omega), List.getElem?_eq_none (by simp; omega)]
theorem intS_holds {s : List Int} {e : Nat} {w : World} {base g cap : Nat} {ok : Nat → Prop} {xs : List Int} (h : Kd.R (Kd.int .i64) e w base ok (.slice (some ⟨g, 0, none⟩) xs.length cap) xs) (hw : ∀ x ∈ xs, x ∈ s) : Holds (encS s) w g 0 xs.toArray := by
  intro j hj
  have hj' : j < xs.length := by simpa using hj
  have h1 := Kd.R_celln 0 h (j : Int) (by omega) (by omega)
  rw [Int.toNat_natCast] at h1
  rw [Nat.zero_add]
  refine ⟨?_, h1.2⟩
  rw [h1.1]
  have e1 : rdOf 0 xs (j : Int) = xs[j] := by simp [rdOf, List.getD_eq_getElem?_getD, List.getElem?_eq_getElem hj']
  have e2 : xs.toArray[j]! = xs[j] := by simp [hj']
  rw [e1, e2]
  unfold encS
  rw [clS_of (hw _ (List.getElem_mem hj'))]
theorem intS_sorted {s : List Int} {e : Nat} {w : World} {base g cap m : Nat} {os : Array Obj} {ok : Nat → Prop} {xs ys : List Int} (h : Kd.R (Kd.int .i64) e w base ok (.slice (some ⟨g, 0, none⟩) xs.length cap) xs) (hl : ys.length = xs.length) (hw : ∀ x ∈ ys, x ∈ s) :
    Kd.R (Kd.int .i64) e (sortWorld (encS s) w g 0 m ys.toArray os) base ok (.slice (some ⟨g, 0, none⟩) ys.length cap) ys := by
  have hok := h.1
  have ho := Kd.own_of_R h
  rcases ho.2 with ⟨q, _⟩ | ⟨g', cap', cur, q, hb, hh, h1, h2, h3, h4⟩
  · cases q
  · injection q with q1 q2 q3
    injection q1 with q1
    injection q1 with q1
    subst q1 q3
    refine Kd.R_of_own ⟨by simp [encs], .inr ⟨g, cap, _, rfl, hb, sw_heap _ hh, by omega, h2, by simp [putCells, h3], ?_⟩⟩ (fun k hk => hok k (by simpa [Value.ownBlock] using hk))
    rw [Nat.mul_one, ← encS_map hw]
    exact sw_take cur ys (by omega)
theorem perm_of_in {d d' : Array Int} (h : Go.Sort.PermIn 0 d.size d d') : d'.toList.Perm d.toList := by
  have h3 := h.2.2
  have e1 : d.extract 0 d.size = d := by simp
  have e2 : d'.extract 0 d.size = d' := by rw [← h.1]; simp
  rw [e1, e2] at h3
  exact h3
variable {w : World} {ok : Nat → Prop} {g n : Nat} {l : List Int} {sc : List Nat} {st : Nat}
set_option maxHeartbeats 2000000 in
theorem hs_cmp {hb gs gp bx : Nat} {vl : Value} {pl : List Int} (x y : Int) (h : HM w ok g hb gs gp vl l sc pl st) (hbx : w.heap[bx]? = some (.cells #[.pointer (some ⟨g, 0, none⟩)] 36 (0, 0))) (hx0 : 0 ≤ x) (hx1 : x < (sc.length : Int)) (hy0 : 0 ≤ y) (hy1 : y < (sc.length : Int)) (hs : ∀ x ∈ sc, x < inf) :
    Calls Try.prog 46 #[.int .i64 x, .int .i64 y, .pointer (some ⟨bx, 0, none⟩)] w fun e w' => e = .returned (.int .i64 (if ah sc x y = true then -1 else 1)) ∧ ∃ q, w' = w.drewN q := by
  have H := Aside0.mk h
  have HR := Aside0.mk (And.intro hx0 (And.intro hx1 (And.intro hy0 (And.intro hy1 hs))))
  have b0 := blk_cell hbx 0
  clear h hbx hx0 hx1 hy0 hy1 hs
  cases ha : ah sc x y with
  | true =>
    rw [if_pos rfl]
    have HA := Aside0.mk ha
    clear ha
    go_enter Try.func46, Try.ntmps46
    go_wp2_with (go_at_call 47; refine (hp_ahead x y H.out HR.out.1 HR.out.2.1 HR.out.2.2.1 HR.out.2.2.2.1 HR.out.2.2.2.2).mono ?_; rw [HA.out]; rintro e w' ⟨rfl, ⟨nd, rfl⟩⟩)
    go_ret
    exact ⟨rfl, nd, rfl⟩
  | false =>
    rw [if_neg (by decide)]
    have HA := Aside0.mk ha
    clear ha
    go_enter Try.func46, Try.ntmps46
    go_wp2_with (go_at_call 47; refine (hp_ahead x y H.out HR.out.1 HR.out.2.1 HR.out.2.2.1 HR.out.2.2.2.1 HR.out.2.2.2.2).mono ?_; rw [HA.out]; rintro e w' ⟨rfl, ⟨nd, rfl⟩⟩)
    go_ret
    exact ⟨rfl, nd, rfl⟩
theorem hs_sort {hb gs gp bx : Nat} {vl v : Value} {pl : List Int} {B : Nat} (h : HM w ok g hb gs gp vl l sc pl st) (hwf : WF sc.length (fun _ => False) l pl) (hbx : w.heap[bx]? = some (.cells #[.pointer (some ⟨g, 0, none⟩)] 36 (0, 0))) (hs : ∀ x ∈ sc, x < inf)
    (hR : Kd.R (Kd.int .i64) 3 w B (fun k => B ≤ k) v l) (hokB : ∀ k, ok k → k < B) (hbB : bx < B) (hl : l.length ≤ 1048576) :
    Calls Try.prog 45 #[v, .func (.func 46) #[] #[.pointer (some ⟨bx, 0, none⟩)]] w fun e w' => e = .returned (.tuple #[]) ∧ ∃ o, Kd.R (Kd.int .i64) 3 w' B (fun k => B ≤ k) v o ∧ o.length = l.length ∧ o.Pairwise (fun x y => ah sc x y = true) ∧ (∀ x, x ∈ o ↔ x ∈ l) ∧ w.grownBy w' v.ownBlock := by
  by_cases h0 : l = []
  · subst h0
    obtain ⟨A, c, rfl⟩ := Kd.R_slice hR
    refine (Go.Proofs.Try.slices_SortFunc_none (α := Int) A c _ w).mono ?_
    rintro e w' ⟨rfl, rfl⟩
    exact ⟨rfl, [], hR, rfl, List.Pairwise.nil, fun x => Iff.rfl, ⟨rfl, rfl, rfl, Nat.le_refl _, fun _ _ _ => rfl⟩⟩
  · have hpos : 0 < l.length := List.length_pos_iff.2 h0
    obtain ⟨k, cap, rfl, hg1, hg2, cells, hg3⟩ := Kd.R_form hR hpos
    have hcmp : CmpReads Try.prog 46 #[.pointer (some ⟨bx, 0, none⟩)] (encS l) (cmpH sc l) k 0 l.toArray.size w := by
      intro m os dk hdk x y
      have hgr : w.grownBy (sortWorld (encS l) w k 0 m dk os) (some k) := sw_grown dk
      have h2 := h.step (w1 := sortWorld (encS l) w k 0 m dk os) (fun j hj hlt => hgr.block j hlt (fun e => by injection e with e; have := hokB j hj; have := Kd.R_base hR k rfl; omega))
      have hbx2 := (hgr.block bx (blk_lt hbx) (fun e => by injection e with e; have := Kd.R_base hR k rfl; omega)).trans hbx
      have hx := hwf.rng _ (clS_mem h0 x)
      have hy := hwf.rng _ (clS_mem h0 y)
      refine (hs_cmp (clS l x) (clS l y) h2 hbx2 hx.1 hx.2 hy.1 hy.2 hs).mono ?_
      rintro e w' ⟨rfl, q, rfl⟩
      exact ⟨rfl, q, rfl⟩
    have eg : ∀ args w, (callFunc 46 args).run Try.prog w = .ok (.enter 46 args) w := enters_of Try.func46 (by kernel_rfl) rfl
    have hcon := Go.Proofs.Try.slices_SortFunc (encS l) (fun _ => rfl) (cmpH sc l) (cmpH_swo sc l) 46 #[.pointer (some ⟨bx, 0, none⟩)] k 0 cap l.toArray w eg hcmp.lays (intS_holds hR (fun x hx => hx)) hg2 (by simp; omega)
    have hsz : l.toArray.size = l.length := by simp
    rw [hsz] at hcon
    refine Calls.mono (f := 45) hcon ?_
    rintro e w' ⟨rfl, d', m, os, hp', hs', rfl⟩
    have hperm : d'.toList.Perm l := by have := perm_of_in (d := l.toArray) (by rw [hsz]; exact hp'); simpa using this
    have hl2 : d'.toList.length = l.length := hperm.length_eq
    have hmem : ∀ x, x ∈ d'.toList ↔ x ∈ l := fun x => hperm.mem_iff
    have hnd : d'.toList.Nodup := hperm.nodup_iff.2 hwf.nodup
    refine ⟨rfl, d'.toList, ?_, hl2, ?_, hmem, sw_grown d'⟩
    · have := intS_sorted (s := l) (m := m) (os := os) (ys := d'.toList) hR hl2 (fun x hx => (hmem x).1 hx)
      rw [hl2] at this
      simpa using this
    · rw [List.pairwise_iff_getElem]
      intro i j hi hj hij
      have h1 := hs' i j (Nat.zero_le _) hij (by rw [← hl2]; exact hj)
      have ei : d'[i]! = d'.toList[i] := by have : i < d'.size := by simpa using hi
                                            simp [this]
      have ej : d'[j]! = d'.toList[j] := by have : j < d'.size := by simpa using hj
                                            simp [this]
      rw [ei, ej, lt_cmpH, clS_of ((hmem _).1 (List.getElem_mem hi)), clS_of ((hmem _).1 (List.getElem_mem hj))] at h1
      refine ah_total (fun e => ?_) (by rw [h1]; decide)
      have := (List.nodup_iff_pairwise_ne.1 hnd)
      rw [List.pairwise_iff_getElem] at this
      exact this i j hi hj hij e.symm
end

end Go.Proofs.Ytocmldppefjbgaa.PHP
