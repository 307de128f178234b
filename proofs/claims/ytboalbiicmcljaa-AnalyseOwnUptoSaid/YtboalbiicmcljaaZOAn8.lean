import Derived.Test.YtboalbiicmcljaaZOAn7
namespace Go.Proofs.Ytboalbiicmcljaa.PAN
open Go.RowKit Go.Proofs.YtboalbiicmcljaaW.PrintWords Go.Proofs.YtboalbiicmcljaaW.PrintLast Go.Proofs.YtboalbiicmcljaaW.PrintMore Go.Proofs.YtboalbiicmcljaaH
set_option linter.unusedVariables false
set_option linter.unusedSimpArgs false
def litsW (l : List Int) : Bool := l.all fun x => decide (w64 x)
def wfB (cs : List (List Int)) (ms : List Mk) : Bool :=
  (cs.all fun c => litsW c && decide (c.length ≤ 4194304)) && (ms.all fun m => decide (w64 m.f0 ∧ w64 m.f1 ∧ w64 m.f2)) && decide (ms.length ≤ 4194304) && decide (cs.length ≤ 4194304)
theorem wfB_iff {cs : List (List Int)} {ms : List Mk} (h : wfB cs ms = true) : Wf cs ms := by
  unfold wfB litsW at h
  simp only [Bool.and_eq_true, List.all_eq_true, decide_eq_true_eq] at h
  obtain ⟨⟨⟨h1, h2⟩, h3⟩, h4⟩ := h
  exact ⟨fun c hc x hx => (h1 c hc).1 x hx, h2, h3, h4, fun c hc => (h1 c hc).2⟩
def uipL (cs : List (List Int)) (ms : List Mk) (m : Int) : Nat → List Int → List Int → List Int × List Int
  | 0, s, ch => (s, ch)
  | n + 1, s, ch => match atL ms s m with
    | a :: _ :: _ => uipL cs ms m n (resL cs ms s a) (ch ++ [rsn ms a])
    | _ => (s, ch)
def toldP (ms : List Mk) (first : Int) (s chn : List Int) : List Int × Int × List Int × Int := (first :: restL ms s first, mostL ms (restL ms s first), chn, 0)
def setL (c : List Int) : List Int := c.foldl insK []
def firstP (cs : List (List Int)) (ms : List Mk) (conf : Int) : List Int × Int × List Int × Int :=
  if validB cs [] ms = true then
    if 0 ≤ conf ∧ conf < cs.length ∧ ((rdC cs conf).all fun x => isFalseB ms x) = true then
      if mostL ms (setL (rdC cs conf)) = 0 then ([], 0, [], 210)
      else toldP ms ((atL ms (uipL cs ms (mostL ms (setL (rdC cs conf))) ms.length (setL (rdC cs conf)) []).1 (mostL ms (setL (rdC cs conf)))).headD 0)
        (cleanL cs ms ms.length (uipL cs ms (mostL ms (setL (rdC cs conf))) ms.length (setL (rdC cs conf)) []).1 (uipL cs ms (mostL ms (setL (rdC cs conf))) ms.length (setL (rdC cs conf)) []).2).1
        ([conf] ++ (cleanL cs ms ms.length (uipL cs ms (mostL ms (setL (rdC cs conf))) ms.length (setL (rdC cs conf)) []).1 (uipL cs ms (mostL ms (setL (rdC cs conf))) ms.length (setL (rdC cs conf)) []).2).2)
    else ([], 0, [], 210)
  else ([], 0, [], 200)
theorem top_two {cs : List (List Int)} {ms : List Mk} (h : VT cs ms) {s : List Int} (hs : AllF ms s) (hn : s.Nodup) {m a b : Int} {r : List Int} (ha : atL ms s m = a :: b :: r) :
    a ∈ s ∧ b ∈ s ∧ a ≠ b ∧ lev ms a = m ∧ lev ms b = m ∧ rsn ms a ≠ -1 ∧ ∀ y ∈ s, lev ms y = m → pk ms y ≤ pk ms a := by
  have hp := fallL_perm ms s
  have hsub : (a :: b :: r).Sublist (fallL ms s) := by rw [← ha]; exact List.filter_sublist
  have hnd : (a :: b :: r).Nodup := (hp.nodup_iff.2 hn).sublist hsub
  have hsort := (fallL_sorted ms s).sublist hsub
  have hma : a ∈ atL ms s m := by rw [ha]; simp
  have hmb : b ∈ atL ms s m := by rw [ha]; simp
  unfold atL at hma hmb
  rw [List.mem_filter] at hma hmb
  have has := hp.mem_iff.1 hma.1
  have hbs := hp.mem_iff.1 hmb.1
  have hne : a ≠ b := fun e => (List.nodup_cons.1 hnd).1 (by rw [e]; simp)
  have hla : lev ms a = m := by simpa using hma.2
  have hlb : lev ms b = m := by simpa using hmb.2
  refine ⟨has, hbs, hne, hla, hlb, ?_, fun y hy hly => ?_⟩
  · intro hr
    obtain ⟨h1, h2⟩ := mkOf_get (hs a has)
    have ho := okAt_iff.1 (h _ _ h1)
    rcases ho.how with ⟨_, q1⟩ | ⟨q, _⟩
    · have hpk : pk ms b ≤ pk ms a := (List.pairwise_cons.1 hsort).1 b (by simp)
      have hlt : pk ms b < pk ms a := Nat.lt_of_le_of_ne hpk (fun e => hne (pk_inj (hs b hbs) (hs a has) e).symm)
      have h3 := lvl_mono h (i := pk ms b + 1) (pk ms a) (Nat.le_of_lt (pk_lt (hs a has))) hlt
      rw [← lev_lvl (hs b hbs), hlb] at h3
      unfold lev at hla
      omega
    · exact absurd hr q
  · have hmy : y ∈ atL ms s m := by unfold atL; rw [List.mem_filter]; exact ⟨hp.mem_iff.2 hy, by simpa using hly⟩
    rw [ha] at hmy
    rcases List.mem_cons.1 hmy with rfl | hmy
    · exact Nat.le_refl _
    · exact (List.pairwise_cons.1 hsort).1 y hmy
theorem uip_bound {cs : List (List Int)} {ms : List Mk} (h : VT cs ms) {s : List Int} (hs : AllF ms s) (hn : s.Nodup) {m a b : Int} {r : List Int} (ha : atL ms s m = a :: b :: r) : ∀ y ∈ resL cs ms s a, lev ms y = m → pk ms y < pk ms a := by
  obtain ⟨h1, h2, h3, h4, h5, h6, h7⟩ := top_two h hs hn ha
  intro y hy hy0
  rcases mem_resL.1 hy with ⟨q1, q2⟩ | q
  · have h8 := h7 y q1 hy0
    rcases Nat.lt_or_ge (pk ms y) (pk ms a) with h9 | h9
    · exact h9
    · exact absurd (pk_inj (hs y q1) (hs a h1) (Nat.le_antisymm h8 h9)) q2
  · exact ((h.new (hs a h1) h6).2.2 y q).2.1
theorem uip_most {cs : List (List Int)} {ms : List Mk} (h : VT cs ms) {s : List Int} (hs : AllF ms s) (hn : s.Nodup) {m a b : Int} {r : List Int} (hm : mostL ms s = m) (hm0 : m ≠ 0) (ha : atL ms s m = a :: b :: r) : mostL ms (resL cs ms s a) = m := by
  obtain ⟨h1, h2, h3, h4, h5, h6, h7⟩ := top_two h hs hn ha
  have hle : ∀ y ∈ resL cs ms s a, lev ms y ≤ m := by
    intro y hy
    rcases mem_resL.1 hy with ⟨q1, _⟩ | q
    · rw [← hm]; exact mostL_le q1
    · rw [← h4]; exact ((h.new (hs a h1) h6).2.2 y q).2.2
  have hb : b ∈ resL cs ms s a := mem_resL.2 (.inl ⟨h2, fun e => h3 e.symm⟩)
  have h8 := mostL_le (ms := ms) hb
  rw [h5] at h8
  rcases Int.lt_or_le m (mostL ms (resL cs ms s a)) with h9 | h9
  · obtain ⟨x, hx, he⟩ := mostL_mem (ms := ms) (resL cs ms s a) (by have := mostL_nonneg ms (resL cs ms s a); have := mostL_nonneg ms s; omega)
    have := hle x hx
    omega
  · omega
theorem load_yes (A0 : Option Addr) (c0 : Nat) (cs : List (List Int)) (A1 : Option Addr) (c1 : Nat) (ms : List Mk) (w : World) (hr0 : Kd.C (Kd.slice 3 (Kd.int .i64)) w A0 cs.length cs) (hc0 : cs.length ≤ c0) (hr1 : Kd.C k49 w A1 ms.length ms) (hc1 : ms.length ≤ c1) (hwf : Wf cs ms) (hv : validB cs [] ms = true) :
    Calls Try.prog 36 #[.slice A0 cs.length c0, .slice A1 ms.length c1] w fun e w' => ∃ tb, e = .returned (.tuple #[.pointer (some ⟨tb, 0, none⟩), .bool true]) ∧ Tr w' w'.heap.size tb cs ms ∧ Below w.heap.size w w' :=
  (an_load A0 c0 cs A1 c1 ms w hr0 hc0 hr1 hc1 hwf).mono fun e w' ⟨hb, h⟩ => h.elim (fun ⟨_, tb, he, _, ht⟩ => ⟨tb, he, ht, hb⟩) (fun h => by rw [hv] at h; exact absurd h.1 (by simp))
theorem load_no (A0 : Option Addr) (c0 : Nat) (cs : List (List Int)) (A1 : Option Addr) (c1 : Nat) (ms : List Mk) (w : World) (hr0 : Kd.C (Kd.slice 3 (Kd.int .i64)) w A0 cs.length cs) (hc0 : cs.length ≤ c0) (hr1 : Kd.C k49 w A1 ms.length ms) (hc1 : ms.length ≤ c1) (hwf : Wf cs ms) (hv : validB cs [] ms = false) :
    Calls Try.prog 36 #[.slice A0 cs.length c0, .slice A1 ms.length c1] w fun e w' => e = .returned (.tuple #[.pointer none, .bool false]) ∧ Below w.heap.size w w' :=
  (an_load A0 c0 cs A1 c1 ms w hr0 hc0 hr1 hc1 hwf).mono fun e w' ⟨hb, h⟩ => h.elim (fun h => by rw [hv] at h; exact absurd h.1 (by simp)) (fun h => ⟨h.2, hb⟩)
theorem res_set {w W : World} {u0 u1 u2 v0 v2 : Value} {b : Int} {cl chn : List Int} (hb : Below w.heap.size w W) (hr : W.heap[w.heap.size]? = some (.cells #[u0, u1, u2] 30 (0, 0)))
    (r0 : Kd.R (Kd.int .i64) 3 W w.heap.size (fun k => some k ≠ v2.ownBlock) v0 cl) (r2 : Kd.R (Kd.int .i64) 3 W w.heap.size (fun k => some k ≠ v0.ownBlock) v2 chn) :
    (((W.setCell ⟨w.heap.size, 0, none⟩ v0).setCell ⟨w.heap.size, 1, none⟩ (.int .i64 b)).setCell ⟨w.heap.size, 2, none⟩ v2).heap[w.heap.size]? = some (.cells #[v0, .int .i64 b, v2] 30 (0, 0)) ∧
    Kd.R (Kd.int .i64) 3 (((W.setCell ⟨w.heap.size, 0, none⟩ v0).setCell ⟨w.heap.size, 1, none⟩ (.int .i64 b)).setCell ⟨w.heap.size, 2, none⟩ v2) w.heap.size (fun k => some k ≠ v2.ownBlock) v0 cl ∧
    Kd.R (Kd.int .i64) 3 (((W.setCell ⟨w.heap.size, 0, none⟩ v0).setCell ⟨w.heap.size, 1, none⟩ (.int .i64 b)).setCell ⟨w.heap.size, 2, none⟩ v2) w.heap.size (fun k => some k ≠ v0.ownBlock) v2 chn ∧
    Below w.heap.size w (((W.setCell ⟨w.heap.size, 0, none⟩ v0).setCell ⟨w.heap.size, 1, none⟩ (.int .i64 b)).setCell ⟨w.heap.size, 2, none⟩ v2) := by
  have hb0 := blk_set hr 0 v0
  have hb1 := blk_set hb0 1 (.int .i64 b)
  have hb2 := blk_set hb1 2 v2
  have hn : ∀ q, q ∈ 3 :: (Kd.int .i64).E → q ≠ 30 := by simp [Kd.int, Kd.scalar]
  exact ⟨by simpa using hb2, Kd.R_set (Kd.R_set (Kd.R_set r0 hr hn 0 _) hb0 hn 1 _) hb1 hn 2 _, Kd.R_set (Kd.R_set (Kd.R_set r2 hr hn 0 _) hb0 hn 1 _) hb1 hn 2 _, below_set (below_set (below_set hb (Nat.le_refl _)) (Nat.le_refl _)) (Nat.le_refl _)⟩
def FirstPost (w : World) (r : List Int × Int × List Int × Int) (e : Ending) (w' : World) : Prop :=
  ∃ v0_ v2_ : Value, e = .returned (.tuple #[.agg #[v0_, .int .i64 r.2.1, v2_], .int .i64 r.2.2.2]) ∧ Kd.R (Kd.int .i64) 3 w' w.heap.size (fun k_ => some k_ ≠ (v2_ : Value).ownBlock) v0_ r.1 ∧ Kd.R (Kd.int .i64) 3 w' w.heap.size (fun k_ => some k_ ≠ (v0_ : Value).ownBlock) v2_ r.2.2.1 ∧ Below w.heap.size w w'
theorem first_no {w W : World} {c : Int} (hb : Below w.heap.size w W) (hr : W.heap[w.heap.size]? = some (.cells #[.slice none 0 0, .int .i64 0, .slice none 0 0] 30 (0, 0))) (r : List Int × Int × List Int × Int) (hr' : r = ([], 0, [], c)) :
    (((W.setCell ⟨w.heap.size, 0, none⟩ (.slice none 0 0)).setCell ⟨w.heap.size, 1, none⟩ (.int .i64 0)).setCell ⟨w.heap.size, 2, none⟩ (.slice none 0 0)).heap[w.heap.size]? = some (.cells #[.slice none 0 0, .int .i64 0, .slice none 0 0] 30 (0, 0)) ∧
    FirstPost w r (.returned (.tuple #[.agg #[.slice none 0 0, .int .i64 0, .slice none 0 0], .int .i64 c])) (((W.setCell ⟨w.heap.size, 0, none⟩ (.slice none 0 0)).setCell ⟨w.heap.size, 1, none⟩ (.int .i64 0)).setCell ⟨w.heap.size, 2, none⟩ (.slice none 0 0)) := by
  subst hr'
  have h := res_set (v0 := .slice none 0 0) (v2 := .slice none 0 0) (b := 0) (cl := []) (chn := []) hb hr (Kd.R_nil _ _ _ _ _) (Kd.R_nil _ _ _ _ _)
  exact ⟨h.1, _, _, rfl, h.2.1, h.2.2.1, h.2.2.2⟩
structure FirI (w2 : World) (tb : Nat) (s : List Int) (W : World) : Prop where
  se : SeP W (fun k => w2.heap.size ≤ k) (w2.heap.size + 1) tb w2.heap.size (.slice none 0 0) s []
  b : Below w2.heap.size w2 W
structure UipI (w2 : World) (tb : Nat) (cs : List (List Int)) (ms : List Mk) (m : Int) (R : List Int × List Int) (k : Nat) (v : Value) (W : World) (s ch : List Int) (B : Nat) : Prop where
  se : Se W (fun k => w2.heap.size ≤ k ∧ k < B) (w2.heap.size + 1) tb s ch
  b : Below w2.heap.size w2 W
  r : Kd.R (Kd.int .i64) 3 W B (fun _ => True) v (atL ms s m)
  f : AllF ms s
  n : s.Nodup
  mo : mostL ms s = m
  bd : ∀ y ∈ s, lev ms y = m → pk ms y < k
  ln : ch.length + k ≤ ms.length
  eq : uipL cs ms m k s ch = R
theorem setL_mem {c : List Int} {x : Int} : x ∈ setL c ↔ x ∈ c := by unfold setL; rw [mem_foldl_insK]; simp
theorem top_cell {w6 w7 : World} {B n c : Nat} {ad : Addr} {l : List Int} {a : Int} (h : Kd.R (Kd.int .i64) 3 w6 B (fun _ => True) (.slice (some ad) n c) l) (hl : l = [a]) (hm : ∀ k, B ≤ k → k < w6.heap.size → w7.heap[k]? = w6.heap[k]?) : w7.cell? ad = some (.int .i64 a) := by
  subst hl
  have r7 := Kd.R_step (Kd.R_bound h) (fun k hk hlt => hm k hk.2.1 hlt)
  obtain ⟨q, hq, hx⟩ := Kd.at_int (Kd.R_reads' r7).2.2 0 (by omega) (by simp)
  injection hq with hq
  subst hq
  exact hx
theorem below7 {L : Nat} {w2 w6 w7 : World} (h : Below L w2 w6) (h7 : Below L w6 w7) : Below L w2 w7 :=
  ⟨h7.os.trans h.os, h7.tape.trans h.tape, h7.output.trans h.output, Nat.le_trans h.size h7.size, fun k hk => (h7.block k hk).trans (h.block k hk)⟩
set_option maxHeartbeats 16000000 in
set_option maxRecDepth 100000 in
theorem an_first (A0 : Option Addr) (c0 : Nat) (cs : List (List Int)) (A1 : Option Addr) (c1 : Nat) (ms : List Mk) (conf : Int) (w : World) (hr0 : Kd.C (Kd.slice 3 (Kd.int .i64)) w A0 cs.length cs) (hc0 : cs.length ≤ c0) (hr1 : Kd.C k49 w A1 ms.length ms) (hc1 : ms.length ≤ c1) (hwf : Wf cs ms) :
    Calls Try.prog 15 #[.slice A0 cs.length c0, .slice A1 ms.length c1, .int .i64 conf] w (FirstPost w (firstP cs ms conf)) := by
  have HR0 := Aside0.mk hr0
  have HR1 := Aside0.mk hr1
  have HC0 := Aside0.mk hc0
  have HC1 := Aside0.mk hc1
  have HW := Aside0.mk hwf
  clear hr0 hr1 hc0 hc1 hwf
  cases hv : validB cs [] ms with
  | false =>
    have HV := Aside0.mk hv
    have HP : Aside0 (firstP cs ms conf = ([], 0, [], 200)) := ⟨by unfold firstP; rw [hv]; rfl⟩
    clear hv
    go_enter Try.func15, Try.ntmps15
    go_wp2_with (first | (go_at_call 36; refine (load_no A0 c0 cs A1 c1 ms _ (Kd.C_alloc HR0.out _) HC0.out (Kd.C_alloc HR1.out _) HC1.out HW.out HV.out).mono ?_; rintro e w2 ⟨rfl, hb2⟩; have HB2 := Aside0.mk (And.intro (below_step (below_alloc (Below.refl _ _) _) hb2) ((hb2.block w.heap.size (by simp)).trans (heap_alloc_new w (.cells #[.slice none 0 0, .int .i64 0, .slice none 0 0] 30)))); clear hb2; have q0 : w2.cell? ⟨w.heap.size, 0, none⟩ = some (.slice none 0 0) := blk_cell HB2.out.2 0; have q1 : w2.cell? ⟨w.heap.size, 1, none⟩ = some (.int .i64 0) := blk_cell HB2.out.2 1; have q2 : w2.cell? ⟨w.heap.size, 2, none⟩ = some (.slice none 0 0) := blk_cell HB2.out.2 2; have p0 := blk_frozen HB2.out.2 0; have p1 := blk_frozen HB2.out.2 1; have p2 := blk_frozen HB2.out.2 2))
    have hfin := first_no HB2.out.1 HB2.out.2 _ HP.out
    generalize ((w2.setCell ⟨w.heap.size, 0, none⟩ (.slice none 0 0)).setCell ⟨w.heap.size, 1, none⟩ (.int .i64 0)).setCell ⟨w.heap.size, 2, none⟩ (.slice none 0 0) = w9 at hfin ⊢
    have k0 := blk_cell hfin.1 0
    have k1 := blk_cell hfin.1 1
    have k2 := blk_cell hfin.1 2
    refine bodyPost_ret (v := .tuple #[.agg #[.slice none 0 0, .int .i64 0, .slice none 0 0], .int .i64 200]) (by simp [results, Try.results15, go_sem, k0, k1, k2]) rfl hfin.2
  | true =>
    have HV := Aside0.mk hv
    have HVT := Aside0.mk (VT.of hv)
    by_cases hin : 0 ≤ conf ∧ conf < cs.length
    rotate_left
    · have HP : Aside0 (firstP cs ms conf = ([], 0, [], 210)) := ⟨by unfold firstP; rw [if_pos hv, if_neg (fun h => hin ⟨h.1, h.2.1⟩)]⟩
      clear hv
      by_cases h0 : conf < 0
      · have d0 : decide (conf < 0) = true := by simpa using h0
        clear h0 hin
        go_enter Try.func15, Try.ntmps15
        go_wp2_with (first | (go_at_call 36; refine (load_yes A0 c0 cs A1 c1 ms _ (Kd.C_alloc HR0.out _) HC0.out (Kd.C_alloc HR1.out _) HC1.out HW.out HV.out).mono ?_; rintro e w2 ⟨tb, rfl, ht2, hb2⟩; have HT := Aside0.mk ht2; have HB2 := Aside0.mk (And.intro (below_step (below_alloc (Below.refl _ _) _) hb2) ((hb2.block w.heap.size (by simp)).trans (heap_alloc_new w (.cells #[.slice none 0 0, .int .i64 0, .slice none 0 0] 30)))); clear hb2 ht2; have q0 : w2.cell? ⟨w.heap.size, 0, none⟩ = some (.slice none 0 0) := blk_cell HB2.out.2 0; have q1 : w2.cell? ⟨w.heap.size, 1, none⟩ = some (.int .i64 0) := blk_cell HB2.out.2 1; have q2 : w2.cell? ⟨w.heap.size, 2, none⟩ = some (.slice none 0 0) := blk_cell HB2.out.2 2; have p0 := blk_frozen HB2.out.2 0; have p1 := blk_frozen HB2.out.2 1; have p2 := blk_frozen HB2.out.2 2))
        have hfin := first_no HB2.out.1 HB2.out.2 _ HP.out
        generalize ((w2.setCell ⟨w.heap.size, 0, none⟩ (.slice none 0 0)).setCell ⟨w.heap.size, 1, none⟩ (.int .i64 0)).setCell ⟨w.heap.size, 2, none⟩ (.slice none 0 0) = w9 at hfin ⊢
        have k0 := blk_cell hfin.1 0
        have k1 := blk_cell hfin.1 1
        have k2 := blk_cell hfin.1 2
        refine bodyPost_ret (v := .tuple #[.agg #[.slice none 0 0, .int .i64 0, .slice none 0 0], .int .i64 210]) (by simp [results, Try.results15, go_sem, k0, k1, k2]) rfl hfin.2
      · have d0 : decide (conf < 0) = false := by simpa using h0
        have d1 : decide (conf ≥ (cs.length : Int)) = true := by simp; omega
        clear h0 hin
        go_enter Try.func15, Try.ntmps15
        go_wp2_with (first | (go_at_call 36; refine (load_yes A0 c0 cs A1 c1 ms _ (Kd.C_alloc HR0.out _) HC0.out (Kd.C_alloc HR1.out _) HC1.out HW.out HV.out).mono ?_; rintro e w2 ⟨tb, rfl, ht2, hb2⟩; have HT := Aside0.mk ht2; have HB2 := Aside0.mk (And.intro (below_step (below_alloc (Below.refl _ _) _) hb2) ((hb2.block w.heap.size (by simp)).trans (heap_alloc_new w (.cells #[.slice none 0 0, .int .i64 0, .slice none 0 0] 30)))); clear hb2 ht2; have q0 : w2.cell? ⟨w.heap.size, 0, none⟩ = some (.slice none 0 0) := blk_cell HB2.out.2 0; have q1 : w2.cell? ⟨w.heap.size, 1, none⟩ = some (.int .i64 0) := blk_cell HB2.out.2 1; have q2 : w2.cell? ⟨w.heap.size, 2, none⟩ = some (.slice none 0 0) := blk_cell HB2.out.2 2; have p0 := blk_frozen HB2.out.2 0; have p1 := blk_frozen HB2.out.2 1; have p2 := blk_frozen HB2.out.2 2))
        have hfin := first_no HB2.out.1 HB2.out.2 _ HP.out
        generalize ((w2.setCell ⟨w.heap.size, 0, none⟩ (.slice none 0 0)).setCell ⟨w.heap.size, 1, none⟩ (.int .i64 0)).setCell ⟨w.heap.size, 2, none⟩ (.slice none 0 0) = w9 at hfin ⊢
        have k0 := blk_cell hfin.1 0
        have k1 := blk_cell hfin.1 1
        have k2 := blk_cell hfin.1 2
        refine bodyPost_ret (v := .tuple #[.agg #[.slice none 0 0, .int .i64 0, .slice none 0 0], .int .i64 210]) (by simp [results, Try.results15, go_sem, k0, k1, k2]) rfl hfin.2
    obtain ⟨h0, h1⟩ := hin
    have HIN := Aside0.mk (And.intro h0 h1)
    have d0 : decide (conf < 0) = false := by simp; omega
    have d1 : decide (conf ≥ (cs.length : Int)) = false := by simp; omega
    have hcl : (rdC cs conf).length ≤ 4194304 := HW.out.lcl _ (rdC_mem h0 h1)
    have HCW : Aside0 (∀ x ∈ rdC cs conf, w64 x) := ⟨HW.out.c _ (rdC_mem h0 h1)⟩
    obtain ⟨adc, Ac, cc, rfl, y0, y1, y2⟩ := at_C HR0.out conf h0 h1
    have HY2 := Aside0.mk y2
    have HY0 := Aside0.mk y0
    obtain ⟨cl, hcle⟩ : ∃ l, l = rdC cs conf := ⟨_, rfl⟩
    rw [← hcle] at hcl HCW y1 HY2 HY0
    have HCE := Aside0.mk hcle
    have hmm := @run_makeMap Try.prog
    clear hv hcle y0 y2
    go_enter Try.func15, Try.ntmps15
    go_wp2_with (first | (go_at_call 36; refine (load_yes (some adc) c0 cs A1 c1 ms _ (Kd.C_alloc HR0.out _) HC0.out (Kd.C_alloc HR1.out _) HC1.out HW.out HV.out).mono ?_; rintro e w2 ⟨tb, rfl, ht2, hb2⟩; have HT := Aside0.mk ht2; have HB2 := Aside0.mk (And.intro (below_step (below_alloc (Below.refl _ _) _) hb2) ((hb2.block w.heap.size (by simp)).trans (heap_alloc_new w (.cells #[.slice none 0 0, .int .i64 0, .slice none 0 0] 30)))); clear hb2 ht2; have y0a : ∀ o o' : Obj, ((w2.alloc o).alloc o').cell? (adc.add conf.toNat) = some (.slice Ac cl.length cc) := fun o o' => pw_cell_below (below_step HB2.out.1 (below_alloc (below_alloc (Below.refl _ _) o) o')) HY0.out))
    clear y0a hmm
    have HI0 : Aside0 (FirI w2 tb [] ((w2.alloc (.map #[] 0)).alloc (.cells #[.pointer (some ⟨tb, 0, none⟩), .map (some w2.heap.size), .slice none 0 0] 65))) := by
      refine ⟨⟨⟨by omega, Nat.le_refl _, ?_, ?_, Kd.R_nil _ _ _ _ _⟩, below_alloc (below_alloc (Below.refl _ _) _) _⟩⟩
      · have := heap_alloc_new (w2.alloc (.map #[] 0)) (.cells #[.pointer (some ⟨tb, 0, none⟩), .map (some w2.heap.size), .slice none 0 0] 65)
        simpa using this
      · exact (isMapF_made Try.prog 3 w2 (fun _ => 1)).step ((below_alloc (Below.refl _ _) _).block _ (by simp))
    go_loopg [42] cl.length (fun kq v42 w' => ∃ i : Nat, v42 = .int .i64 i ∧ i + kq = cl.length ∧ Aside0 (FirI w2 tb (setL (cl.take i)) w' ∧ ∀ x ∈ cl.take i, isFalseB ms x = true))
    case atStart => exact ⟨0, rfl, by omega, ⟨HI0.out, by simp⟩⟩
    case round =>
      obtain ⟨i, rfl, hik, HI⟩ := hrel
      clear HI0
      have hbw : Below w.heap.size w wr := below_then HB2.out.1 HB2.out.1.size HI.out.1.b
      have HBW := Aside0.mk (And.intro hbw ((HI.out.1.b.block _ (blk_lt HB2.out.2)).trans HB2.out.2))
      have HTW : Aside0 (Tr wr w2.heap.size tb cs ms) := ⟨HT.out.below HI.out.1.b⟩
      clear hbw
      cases gk with
      | succ k1 =>
        have hlt : i < cl.length := by omega
        obtain ⟨ad, rfl, hx⟩ := Kd.at_int (Kd.C_below HY2.out HBW.out.1) (i : Int) (by omega) (by omega)
        rw [Int.toNat_natCast] at hx
        have htk := take_rd hlt
        have hxw := HCW.out _ (rdm hlt)
        have hxm := rdm hlt
        obtain ⟨x, hxe⟩ : ∃ x, x = rd cl (i : Int) := ⟨_, rfl⟩
        rw [← hxe] at hx htk hxw hxm
        have HTK := Aside0.mk htk
        have HXW := Aside0.mk (And.intro hxw hxm)
        clear hxe htk hxw hxm
        obtain ⟨_, _, _, _, pb, _, _, hpl, _⟩ := SeP.parts HTW.out
        have HPL := Aside0.mk hpl
        clear hpl
        cases hf : isFalseB ms x with
        | false =>
          have HF := Aside0.mk hf
          have HP : Aside0 (firstP cs ms conf = ([], 0, [], 210)) := ⟨by
            unfold firstP
            rw [if_pos HV.out, if_neg (fun h => by
              have := List.all_eq_true.1 h.2.2 x (HCE.out ▸ HXW.out.2)
              rw [HF.out] at this
              exact absurd this (by simp))]⟩
          have q0 : wr.cell? ⟨w.heap.size, 0, none⟩ = some (.slice none 0 0) := blk_cell HBW.out.2 0
          have q1 : wr.cell? ⟨w.heap.size, 1, none⟩ = some (.int .i64 0) := blk_cell HBW.out.2 1
          have q2 : wr.cell? ⟨w.heap.size, 2, none⟩ = some (.slice none 0 0) := blk_cell HBW.out.2 2
          have p0 := blk_frozen HBW.out.2 0
          have p1 := blk_frozen HBW.out.2 1
          have p2 := blk_frozen HBW.out.2 2
          clear hf
          go_wp2_with (go_at_call 37; refine (an_isFalse tb pb ms x _ HPL.out HXW.out.1).mono ?_; rw [HF.out]; rintro e w' ⟨rfl, rfl⟩)
          have hfin := first_no HBW.out.1 HBW.out.2 _ HP.out
          generalize ((wr.setCell ⟨w.heap.size, 0, none⟩ (.slice none 0 0)).setCell ⟨w.heap.size, 1, none⟩ (.int .i64 0)).setCell ⟨w.heap.size, 2, none⟩ (.slice none 0 0) = w9 at hfin ⊢
          have k0 := blk_cell hfin.1 0
          have k1 := blk_cell hfin.1 1
          have k2 := blk_cell hfin.1 2
          refine bodyPost_ret (v := .tuple #[.agg #[.slice none 0 0, .int .i64 0, .slice none 0 0], .int .i64 210]) (by simp [results, Try.results15, go_sem, k0, k1, k2]) rfl hfin.2
        | true =>
          have HF := Aside0.mk hf
          have c1 : wr.cell? ⟨w2.heap.size + 1, 1, none⟩ = some (.map (some w2.heap.size)) := HI.out.1.se.c1
          have hsl : (setL (cl.take i)).length < maxLen := by
            have h1 := foldl_insK_len (cl.take i) []
            rw [List.length_take] at h1
            unfold setL maxLen
            simp only [List.length_nil] at h1
            omega
          have HSL := Aside0.mk hsl
          clear hf hsl
          go_wp2_with (first | (go_at_call 37; refine (an_isFalse tb pb ms x _ HPL.out HXW.out.1).mono ?_; rw [HF.out]; rintro e w' ⟨rfl, rfl⟩) | (at_mapUpdate; refine wpList_put_F _ rfl _ _ _ 63 rfl 3 Try.underlying63 Try.underlying3 w2.heap.size _ (fun _ => 1) rfl HI.out.1.se.map HSL.out x 1 rfl rfl HXW.out.1 (by decide) ?_; intro w4 hm4 hg4; have H4 := Aside0.mk (And.intro hm4 hg4); clear hm4 hg4))
          have hf1 : updF (fun _ => 1) x 1 = fun _ => (1 : Int) := by funext z; unfold updF; split <;> rfl
          have hI4 : FirI w2 tb (insK (setL (cl.take i)) x) w4 := ⟨HI.out.1.se.putm (hf1 ▸ H4.out.1) H4.out.2, HI.out.1.b.grown H4.out.2 HI.out.1.b.size (fun k hk => by injection hk with hk; omega)⟩
          have HI4 := Aside0.mk hI4
          clear hI4 hf1
          go_roundg k1
          case measure => omega
          case rel =>
            refine ⟨i + 1, by go_num, by omega, ⟨?_, fun y hy => ?_⟩⟩
            · rw [HTK.out]
              unfold setL
              rw [List.foldl_append]
              exact HI4.out
            · rw [HTK.out] at hy
              rcases List.mem_append.1 hy with hy | hy
              · exact HI.out.2 y hy
              · simp at hy; exact hy ▸ HF.out
      | zero =>
        obtain rfl : i = cl.length := by omega
        have hi9 := HI.out
        rw [List.take_length] at hi9
        have HI9 := Aside0.mk hi9
        clear HI hi9
        have hAF : AllF ms (setL cl) := fun x hx => HI9.out.2 x (setL_mem.1 hx)
        have HAF := Aside0.mk hAF
        have HALL : Aside0 (((rdC cs conf).all fun x => isFalseB ms x) = true) := ⟨List.all_eq_true.2 (by rw [← HCE.out]; exact HI9.out.2)⟩
        have HSE : Aside0 (Se wr (fun k => w2.heap.size ≤ k ∧ k < wr.heap.size) (w2.heap.size + 1) tb (setL cl) []) := ⟨Se.bound ⟨_, _, HI9.out.1.se⟩⟩
        clear hAF
        obtain ⟨m, hm⟩ : ∃ m, m = mostL ms (setL cl) := ⟨_, rfl⟩
        have HM := Aside0.mk hm
        clear hm
        by_cases hm0 : m = 0
        · have d2 : (m == 0) = true := by simpa using hm0
          have HP : Aside0 (firstP cs ms conf = ([], 0, [], 210)) := ⟨by
            unfold firstP
            rw [if_pos HV.out, if_pos ⟨HIN.out.1, HIN.out.2, HALL.out⟩, ← HCE.out, ← HM.out, if_pos hm0]⟩
          clear hm0
          go_wp2_with (go_at_call 38; refine (an_top w2.heap.size tb (w2.heap.size + 1) cs ms _ (setL cl) [] _ HTW.out HSE.out HAF.out HW.out).mono ?_; rw [← HM.out]; rintro e w5 ⟨v5, rfl, hv5, hb5⟩; have HB5 := Aside0.mk (And.intro (below_step HBW.out.1 hb5) ((hb5.block _ (blk_lt HBW.out.2)).trans HBW.out.2)); clear hv5 hb5; have q0 : w5.cell? ⟨w.heap.size, 0, none⟩ = some (.slice none 0 0) := blk_cell HB5.out.2 0; have q1 : w5.cell? ⟨w.heap.size, 1, none⟩ = some (.int .i64 0) := blk_cell HB5.out.2 1; have q2 : w5.cell? ⟨w.heap.size, 2, none⟩ = some (.slice none 0 0) := blk_cell HB5.out.2 2; have p0 := blk_frozen HB5.out.2 0; have p1 := blk_frozen HB5.out.2 1; have p2 := blk_frozen HB5.out.2 2)
          have hfin := first_no HB5.out.1 HB5.out.2 _ HP.out
          generalize ((w5.setCell ⟨w.heap.size, 0, none⟩ (.slice none 0 0)).setCell ⟨w.heap.size, 1, none⟩ (.int .i64 0)).setCell ⟨w.heap.size, 2, none⟩ (.slice none 0 0) = w9 at hfin ⊢
          have k0 := blk_cell hfin.1 0
          have k1 := blk_cell hfin.1 1
          have k2 := blk_cell hfin.1 2
          refine bodyPost_ret (v := .tuple #[.agg #[.slice none 0 0, .int .i64 0, .slice none 0 0], .int .i64 210]) (by simp [results, Try.results15, go_sem, k0, k1, k2]) rfl hfin.2
        · have d2 : (m == 0) = false := by simpa using hm0
          have HM0 := Aside0.mk hm0
          clear hm0
          go_wp2_with (go_at_call 38; refine (an_top w2.heap.size tb (w2.heap.size + 1) cs ms _ (setL cl) [] _ HTW.out HSE.out HAF.out HW.out).mono ?_; rw [← HM.out]; rintro e w5 ⟨v5, rfl, hv5, hb5⟩; have H5 := Aside0.mk (And.intro hv5 hb5); clear hv5 hb5)
          obtain ⟨R, hR⟩ : ∃ R, R = uipL cs ms m ms.length (setL cl) [] := ⟨_, rfl⟩
          have HR := Aside0.mk hR
          have HU0 : Aside0 (UipI w2 tb cs ms m R ms.length v5 w5 (setL cl) [] wr.heap.size) := ⟨⟨HSE.out.below H5.out.2, below_step HI9.out.1.b H5.out.2, H5.out.1, HAF.out, nodup_foldl_insK List.nodup_nil, HM.out.symm, fun y hy _ => pk_lt (HAF.out y hy), by simp, hR.symm⟩⟩
          have HLM : Aside0 (ms.length ≤ 4194304) := ⟨HW.out.lm⟩
          clear hR
          go_loopg [13] ms.length (fun kq v13 w' => ∃ s ch B, Aside0 (UipI w2 tb cs ms m R kq v13 w' s ch B))
          case atStart => exact ⟨setL cl, [], wr.heap.size, HU0⟩
          case round =>
            obtain ⟨s, ch, B, HU⟩ := hrel
            clear HU0 H5
            rename World => w6
            have hbw : Below w.heap.size w w6 := below_then HB2.out.1 HB2.out.1.size HU.out.b
            have HBW6 := Aside0.mk (And.intro hbw ((HU.out.b.block _ (blk_lt HB2.out.2)).trans HB2.out.2))
            have HTW6 : Aside0 (Tr w6 w2.heap.size tb cs ms) := ⟨HT.out.below HU.out.b⟩
            clear hbw
            obtain ⟨av, cv, rfl⟩ := Kd.R_slice HU.out.r
            have hC := (Kd.R_reads' HU.out.r).2.2
            obtain ⟨n, hn⟩ : ∃ n, n = (atL ms s m).length := ⟨_, rfl⟩
            rw [← hn] at hC ⊢
            have HN := Aside0.mk hn
            clear hn
            match hA : atL ms s m with
            | [] =>
              exfalso
              obtain ⟨x, hx, he⟩ := mostL_mem (ms := ms) s (by rw [HU.out.mo]; exact HM0.out)
              have : x ∈ atL ms s m := by unfold atL; rw [List.mem_filter]; exact ⟨(fallL_perm ms s).mem_iff.2 hx, by rw [he, HU.out.mo]; simp⟩
              rw [hA] at this
              cases this
            | a :: b :: r =>
              have ht := top_two HVT.out HU.out.f HU.out.n hA
              have hbd := uip_bound HVT.out HU.out.f HU.out.n hA
              have hmo := uip_most HVT.out HU.out.f HU.out.n HU.out.mo HM0.out hA
              cases gk with
              | zero => exact absurd (HU.out.bd a ht.1 ht.2.2.2.1) (by omega)
              | succ k1 =>
                have HA := Aside0.mk hA
                have hd : decide ((n : Int) > 1) = true := by rw [HN.out, hA]; simp; omega
                obtain ⟨ad, rfl, hx⟩ := Kd.at_int hC 0 (by omega) (by rw [HN.out, hA]; simp; omega)
                have hrd : rd (atL ms s m) 0 = a := by rw [hA]; rfl
                rw [hrd] at hx
                have hx2 : w6.cell? ad = some (.int .i64 a) := hx
                have hn0 : (0 : Int) < (n : Int) := by rw [HN.out, hA]; simp; omega
                have hr := HVT.out.new (HU.out.f a ht.1) ht.2.2.2.2.2.1
                have hxw : w64 a := by obtain ⟨_, _, q⟩ := HU.out.se; exact (q.map.wf a ht.1).1
                have HTT := Aside0.mk ht
                have HBD := Aside0.mk hbd
                have HMO := Aside0.mk hmo
                have HRR := Aside0.mk hr
                have HXW := Aside0.mk hxw
                have HSL : Aside0 (s.length ≤ 4194304) := ⟨by have h2 := len_of_falses HU.out.n HU.out.f; have := HLM.out; omega⟩
                have HCL : Aside0 (ch.length ≤ 1099511627776) := ⟨by have := HU.out.ln; have := HLM.out; omega⟩
                have hafr := HU.out.f.res HVT.out ht.1 ht.2.2.2.2.2.1
                have HAFR := Aside0.mk hafr
                clear hA hC hrd ht hbd hmo hr hxw hafr
                go_wp2_with (first | (go_at_call 39; refine (an_resolve w2.heap.size tb (w2.heap.size + 1) cs ms _ s ch a _ HTW6.out HU.out.se (fun k hk => hk.1) HXW.out (HU.out.f a HTT.out.1) HW.out HRR.out.1 HRR.out.2.1 HSL.out HCL.out).mono ?_; rintro e w7 ⟨rfl, hs7, hr7⟩; have H7 := Aside0.mk (And.intro hs7 (And.intro hr7 (hr7.belowL HTW6.out.le (fun k hk => hk.1)))); clear hs7 hr7) | (go_at_call 38; refine (an_top w2.heap.size tb (w2.heap.size + 1) cs ms _ (resL cs ms s a) _ _ (HTW6.out.below H7.out.2.2) ((H7.out.1.mono (ok' := fun k => w2.heap.size ≤ k) (fun k hk => hk.elim (fun q => q.1) (fun q => Nat.le_trans HU.out.b.size q))).bound) HAFR.out HW.out).mono ?_; rw [HMO.out]; rintro e w8 ⟨v8, rfl, hv8, hb8⟩; have H8 := Aside0.mk (And.intro hv8 hb8); clear hv8 hb8))
                have hU8 : UipI w2 tb cs ms m R k1 v8 w8 (resL cs ms s a) (ch ++ [rsn ms a]) w7.heap.size := by
                  refine ⟨(((H7.out.1.mono (ok' := fun k => w2.heap.size ≤ k) (fun k hk => hk.elim (fun q => q.1) (fun q => Nat.le_trans HU.out.b.size q))).bound).below H8.out.2), ?_, H8.out.1, HAFR.out, nodup_resL HU.out.n a, HMO.out, fun y hy hy0 => ?_, ?_, ?_⟩
                  · have h7 : Below w2.heap.size w2 w7 := ⟨H7.out.2.2.os.trans HU.out.b.os, H7.out.2.2.tape.trans HU.out.b.tape, H7.out.2.2.output.trans HU.out.b.output, Nat.le_trans HU.out.b.size H7.out.2.2.size, fun k hk => (H7.out.2.2.block k hk).trans (HU.out.b.block k hk)⟩
                    exact below_step h7 H8.out.2
                  · have h9 := HBD.out y hy hy0
                    have h10 := HU.out.bd a HTT.out.1 HTT.out.2.2.2.1
                    omega
                  · have := HU.out.ln
                    rw [List.length_append, List.length_singleton]
                    omega
                  · rw [← HU.out.eq, uipL, HA.out]
                have HU8 := Aside0.mk hU8
                clear hU8 hx hx2 hn0 hd
                go_roundg k1
                case measure => omega
                case rel => exact ⟨_, _, _, HU8⟩
            | [a] =>
              have HA := Aside0.mk hA
              have hd : decide ((n : Int) > 1) = false := by rw [HN.out, hA]; simp
              obtain ⟨ad, rfl, hx⟩ := Kd.at_int hC 0 (by omega) (by rw [HN.out, hA]; simp)
              have hrd : rd (atL ms s m) 0 = a := by rw [hA]; rfl
              rw [hrd] at hx
              have hx2 : w6.cell? ad = some (.int .i64 a) := hx
              have hn0 : (0 : Int) < (n : Int) := by rw [HN.out, hA]; simp
              have hR : R = (s, ch) := by
                rw [← HU.out.eq]
                cases gk with
                | zero => rfl
                | succ k => rw [uipL, hA]
              have HRE := Aside0.mk hR
              have HCL : Aside0 (ch.length + ms.length ≤ 1099511627776) := ⟨by have := HU.out.ln; have := HLM.out; omega⟩
              have HCLI := Aside0.mk (cleanL_inv HVT.out ms.length s ch HU.out.f HU.out.n)
              obtain ⟨C, hCe⟩ : ∃ C, C = cleanL cs ms ms.length s ch := ⟨_, rfl⟩
              have HCE2 := Aside0.mk hCe
              rw [← hCe] at HCLI
              clear hA hC hrd hR hCe
              go_wp2_with (first | (go_at_call 40; refine (an_clean w2.heap.size tb (w2.heap.size + 1) cs ms _ s ch _ HTW6.out HU.out.se (fun k hk => hk.1) HVT.out HU.out.f HW.out HCL.out).mono ?_; rw [← HCE2.out]; rintro e w7 ⟨rfl, hs7, hr7⟩; have hx3 : w7.cell? ad = some (.int .i64 a) := top_cell HU.out.r HA.out (fun k hk hlt => hr7.block k hlt (fun q => absurd q.2 (Nat.not_lt.2 hk))); have hq7 := hr7.belowL HTW6.out.le (fun k hk => hk.1); have H7 := Aside0.mk (And.intro hs7 (And.intro (below7 HU.out.b hq7) hq7)); clear hs7 hr7 hq7) | (go_at_call 41; refine (an_told w2.heap.size tb (w2.heap.size + 1) cs ms _ C.1 C.2 [conf] a (some ⟨w7.heap.size, 0, none⟩) 1 _ (HTW6.out.below (H7.out.2.2.alloc H7.out.2.1.size _)) (H7.out.1.below (below_alloc (Below.refl _ _) _)) HCLI.out.1 HW.out (Kd.R_reads' (R_one (heap_alloc_new w7 (.cells #[.int .i64 conf] 3)) (Nat.le_refl _) (fun _ => True) trivial)).2.2 (by simp) (Nat.le_trans HCLI.out.2.2 HCL.out)).mono ?_; rintro e w8 ⟨v0, v2, rfl, r0, r2, hb9⟩; obtain ⟨a0, c0', rfl⟩ := Kd.R_slice r0; obtain ⟨a2, c2', rfl⟩ := Kd.R_slice r2; have hX8 := below_step (below_alloc H7.out.2.1 _) hb9; have HB9 := Aside0.mk (And.intro (below_then HB2.out.1 HB2.out.1.size hX8) ((hX8.block _ (blk_lt HB2.out.2)).trans HB2.out.2)); have H9 := Aside0.mk (And.intro r0 r2); have HL9 : Aside0 (w.heap.size ≤ (w7.alloc (.cells #[.int .i64 conf] 3)).heap.size) := ⟨Nat.le_trans HB2.out.1.size (below_alloc H7.out.2.1 _).size⟩; clear r0 r2 hb9 hX8; have q0 : w8.cell? ⟨w.heap.size, 0, none⟩ = some (.slice none 0 0) := blk_cell HB9.out.2 0; have q1 : w8.cell? ⟨w.heap.size, 1, none⟩ = some (.int .i64 0) := blk_cell HB9.out.2 1; have q2 : w8.cell? ⟨w.heap.size, 2, none⟩ = some (.slice none 0 0) := blk_cell HB9.out.2 2; have p0 := blk_frozen HB9.out.2 0; have p1 := blk_frozen HB9.out.2 1; have p2 := blk_frozen HB9.out.2 2))
              have hfin := res_set (v0 := .slice a0 ((restL ms C.1 a).length + 1) c0') (v2 := .slice a2 (C.2.length + 1) c2') (b := mostL ms (restL ms C.1 a)) HB9.out.1 HB9.out.2 (Kd.R_lower H9.out.1 HL9.out) (Kd.R_lower H9.out.2 HL9.out)
              generalize ((w8.setCell ⟨w.heap.size, 0, none⟩ (.slice a0 ((restL ms C.1 a).length + 1) c0')).setCell ⟨w.heap.size, 1, none⟩ (.int .i64 (mostL ms (restL ms C.1 a)))).setCell ⟨w.heap.size, 2, none⟩ (.slice a2 (C.2.length + 1) c2') = w9 at hfin ⊢
              have k0 := blk_cell hfin.1 0
              have k01 := blk_cell hfin.1 1
              have k2 := blk_cell hfin.1 2
              have HP : firstP cs ms conf = (a :: restL ms C.1 a, mostL ms (restL ms C.1 a), [conf] ++ C.2, 0) := by
                unfold firstP
                rw [if_pos HV.out, if_pos ⟨HIN.out.1, HIN.out.2, HALL.out⟩, ← HCE.out, ← HM.out, if_neg HM0.out, ← HR.out, HRE.out]
                simp only []
                rw [HA.out, ← HCE2.out]
                rfl
              rw [HP]
              refine bodyPost_ret (v := .tuple #[.agg #[.slice a0 ((restL ms C.1 a).length + 1) c0', .int .i64 (mostL ms (restL ms C.1 a)), .slice a2 (C.2.length + 1) c2'], .int .i64 0]) (by simp [results, Try.results15, go_sem, k0, k01, k2]) rfl ⟨_, _, rfl, hfin.2⟩
end Go.Proofs.Ytboalbiicmcljaa.PAN
