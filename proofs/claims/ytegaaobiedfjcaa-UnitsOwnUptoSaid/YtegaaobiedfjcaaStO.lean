import Derived.Test.YtegaaobiedfjcaaStM
import Derived.Test.YtegaaobiedfjcaaStL
import Derived.Deep.RegionHeld3
namespace Go.Proofs.Ytegaaobiedfjcaa.PU
open Go.RowKit Go.Proofs.YtegaaobiedfjcaaW.PrintWords Go.Proofs.YtegaaobiedfjcaaW.PrintLast Go.Proofs.YtegaaobiedfjcaaW.PrintMore Go.Proofs.YtegaaobiedfjcaaH
set_option linter.unusedVariables false
set_option linter.unusedSimpArgs false
/-! ### the law's model in memory; what holds of a store and its model -/
def kC (w0 : World) : Kd (List Int) := Kd.mix 3 (Kd.int .i64) (Kd.int .i64) w0
theorem C_kC {w0 w : World} (hb : Below w0.heap.size w0 w) {A : Option Addr} {n : Nat} {xs : List (List Int)} (h : (kC w0).C w A n xs) : (Kd.slice 3 (Kd.int .i64)).C w A n xs := by
  unfold Kd.C at h ⊢
  exact h.imp_ (Below.refl _ _) (fun x cs hp => by
    obtain ⟨A', c', e, h1, h2⟩ := Kd.mix_read rfl (fun _ _ q => q) hb hp
    exact ⟨A', c', e, h1, h2⟩)
structure Mod (w0 w : World) (P : Nat → Prop) (vl vm : Value) (ml : List (List Int)) (mm : List S48) : Prop where
  rl : Kd.R (kC w0) 34 w 0 (fun k => P k ∧ some k ≠ vm.ownBlock) vl ml
  rm : Kd.R k48 48 w 0 P vm mm
theorem Mod.step {w0 w w1 : World} {P : Nat → Prop} {vl vm : Value} {ml : List (List Int)} {mm : List S48} (h : Mod w0 w P vl vm ml mm) (hm : ∀ k, P k → k < w.heap.size → w1.heap[k]? = w.heap[k]?) : Mod w0 w1 P vl vm ml mm :=
  ⟨Kd.R_step h.rl (fun k q hk => hm k q.1 hk), Kd.R_step h.rm hm⟩
theorem Mod.below {w0 w w1 : World} {P : Nat → Prop} {vl vm : Value} {ml : List (List Int)} {mm : List S48} (h : Mod w0 w P vl vm ml mm) (hb : Below w.heap.size w w1) : Mod w0 w1 P vl vm ml mm := h.step (fun k _ hk => hb.block k hk)
theorem Mod.mono {w0 w : World} {P P' : Nat → Prop} {vl vm : Value} {ml : List (List Int)} {mm : List S48} (h : Mod w0 w P vl vm ml mm) (hk : ∀ k, P k → P' k) : Mod w0 w P' vl vm ml mm :=
  ⟨Kd.R_mono h.rl (fun k q => ⟨hk k q.1, q.2⟩), Kd.R_mono h.rm hk⟩
theorem Mod.bound {w0 w : World} {P : Nat → Prop} {vl vm : Value} {ml : List (List Int)} {mm : List S48} (h : Mod w0 w P vl vm ml mm) : Mod w0 w (fun k => P k ∧ k < w.heap.size) vl vm ml mm :=
  ⟨Kd.R_mono (Kd.R_bound h.rl) (fun k q => ⟨⟨q.1.1, q.2.2.1⟩, q.1.2⟩), Kd.R_mono (Kd.R_bound h.rm) (fun k q => ⟨q.1, q.2.2.1⟩)⟩
/-- The store and its model, by numbers and lists. -/
structure SInv (n : Int) (vals : List Int) (cls : List (List Int × Int × Int)) (marks : List S48) (cs : List (List Int)) : Prop where
  fit : Fit vals cls marks
  ecs : cls.map Prod.fst = cs
  cl : ∀ c ∈ cs, c.length ≤ 4194304
  t : TInv (n + 1).toNat vals marks
  may : MayL n cs marks
  n0 : 0 ≤ n
theorem SInv.len {n : Int} {vals : List Int} {cls : List (List Int × Int × Int)} {marks : List S48} {cs : List (List Int)} (h : SInv n vals cls marks cs) : (vals.length : Int) = n + 1 ∧ n ≤ 262144 ∧ marks.length ≤ 262145 ∧ cs.length ≤ 1048576 := by
  have h1 := h.t.len
  have h2 := h.fit.v.max
  have h3 := h.fit.sum
  have h4 := h.fit.cap
  have h5 := h.n0
  have h6 : cs.length = cls.length := by rw [← h.ecs, List.length_map]
  omega
theorem SInv.lits {n : Int} {vals : List Int} {cls : List (List Int × Int × Int)} {marks : List S48} {cs : List (List Int)} (h : SInv n vals cls marks cs) : LitsIn (n + 1).toNat cs := by
  intro c hc x hx
  rw [← h.ecs] at hc
  obtain ⟨y, hy, rfl⟩ := List.mem_map.1 hc
  have := litsOk_rng (h.fit.lit y hy) x hx
  rw [h.t.len] at this
  exact this
theorem SInv.csok {n : Int} {vals : List Int} {cls : List (List Int × Int × Int)} {marks : List S48} {cs : List (List Int)} (h : SInv n vals cls marks cs) : CsOk cs := by
  have h1 := h.len
  exact litsIn_ok h.lits (by omega) (by omega) (fun c hc => by have := h.cl c hc; omega)
theorem SInv.fok {n : Int} {vals : List Int} {cls : List (List Int × Int × Int)} {marks : List S48} {cs : List (List Int)} (h : SInv n vals cls marks cs) : FOk vals cls marks := by
  have h1 := h.may.lvl
  have h2 := h.len
  exact ⟨h.fit, fun x hx => h.cl x.1 (by rw [← h.ecs]; exact List.mem_map_of_mem hx), h1.1, by omega⟩
theorem fits_at {n : Int} {cs : List (List Int)} {now : List S48} (h : MayL n cs now) {i : Nat} (hi : i < now.length) : fitsB n cs (now.take i) (rd_T48 now (i : Int)) = true ∧ 0 ≤ lvl (now.take i) ∧ lvl (now.take i) ≤ now.length := by
  obtain ⟨h1, h2⟩ := h.at_ i _ (rdm_get hi)
  have h3 := h1.lvl
  have := List.length_take_le i now
  rw [List.length_take] at h3
  exact ⟨h2, h3.1, by omega⟩

structure PropPost (w0 w : World) (n : Int) (cs : List (List Int)) (m0 : List S48) (okS : Nat → Prop) (g : Nat) (w' : World) (vals' : List Int) (cls' : List (List Int × Int × Int)) (marks' : List S48) (vm : Value) : Prop where
  inv : SInv n vals' cls' marks' cs
  ok : ∃ oS oM : Nat → Prop, (∀ k, oS k → ¬ oM k) ∧ (∀ k, oS k → okS k ∨ w.heap.size ≤ k) ∧ (∀ k, oM k → w.heap.size ≤ k) ∧ St w' oS g vals' cls' marks' ∧ Kd.R k48 48 w' 0 oM vm marks'
  rest : Rest w w' okS
theorem PI_start {n : Int} {vals : List Int} {cls : List (List Int × Int × Int)} {marks : List S48} {cs : List (List Int)} (hi : SInv n vals cls marks cs) {ok ok' : Nat → Prop} {g : Nat} {w w1 : World} (h : St w ok g vals cls marks) (hb : Below w.heap.size w w1) (hk : ∀ k, ok k → k < w.heap.size → ok' k) : PI (PInv n cs vals marks) cs ok' g w1 w1 vals cls marks :=
  ⟨(h.bound.below hb).mono (fun k q => hk k q.1 q.2), hi.fit, hi.ecs, ⟨DInv.start hi.t, hi.may, [], by simp, fun m hm => by cases hm⟩, Rest.refl _ _⟩
/-- What the law finds behind Propagate. -/
theorem prop_facts {n : Int} {vals vals' : List Int} {cls cls' : List (List Int × Int × Int)} {marks now : List S48} {cs : List (List Int)} (hi : SInv n vals cls marks cs) {ok : Nat → Prop} {g : Nat} {w1 w3 : World} {x : Int} (hpi : PI (PInv n cs vals marks) cs ok g w1 w3 vals' cls' now) (he : Ended x cs vals') :
    SInv n vals' cls' now cs ∧ (∃ e, now = marks ++ e ∧ ∀ m ∈ e, m.f2 ≠ -1) ∧ ∃ (k : Nat) (out : List S48) (b : Int), fulcrumref20_Close.f k cs marks = some (out, b) ∧ fulcrumlaw20_sameMarks.f k marks marks = some true ∧
      (∀ i : Nat, i < now.length → ∃ k', fulcrumref20_Fits.f k' n cs (now.take i) (rd_T48 now (i : Int)).f0 (rd_T48 now (i : Int)).f1 (rd_T48 now (i : Int)).f2 = some true) ∧
      ((b < 0 ∧ x = -1 ∧ fulcrumref20_Rest.f k cs now = some true) ∨ (0 ≤ b ∧ ∃ (i : Nat) (c : List Int), x = (i : Int) ∧ cs[i]? = some c ∧ fulcrumref20_Broken.f k c now = some true)) := by
  have hl := hi.len
  have hs : SInv n vals' cls' now cs := ⟨hpi.fit, hpi.cs, hi.cl, hpi.inv.d.t, hpi.inv.may, hi.n0⟩
  have hl' := hs.len
  obtain ⟨out, b, vo, e1, ho, hb⟩ := Close_all (n + 1).toNat (by omega) cs hi.csok hi.lits vals marks hi.fit.sum hi.t
  have hsay := prop_says hi.lits hpi.inv.d he ho hb
  obtain ⟨K1, e1⟩ := e1
  obtain ⟨K2, e2⟩ := sameMarks_all marks (by omega)
  have hfit : ∀ i : Nat, i < now.length → ∃ k', fulcrumref20_Fits.f k' n cs (now.take i) (rd_T48 now (i : Int)).f0 (rd_T48 now (i : Int)).f1 (rd_T48 now (i : Int)).f2 = some true := by
    intro i hlt
    obtain ⟨q1, q2, q3⟩ := fits_at hs.may hlt
    have := Fits_all n hi.n0 (by omega) cs (now.take i) (rd_T48 now (i : Int)) (by rw [List.length_take]; omega) hi.csok ⟨q2, by omega⟩
    rw [q1] at this
    exact this.rounds
  rcases hsay with ⟨rfl, rfl, f1, f2⟩ | ⟨hb0, i, c, rfl, hi', hbr⟩
  · obtain ⟨K3, e3⟩ := rest_all cs now (by omega) hi.csok f1 f2
    exact ⟨hs, hpi.inv.ext, K1 + K2 + K3, out, -1, e1 _ (by omega), e2 _ (by omega), hfit, .inl ⟨by decide, rfl, e3 _ (by omega)⟩⟩
  · have hcm := List.mem_of_getElem? hi'
    obtain ⟨K3, e3⟩ := Broken_all c now (by omega) (by have := hi.cl c hcm; omega) (hi.csok.rng c hcm)
    rw [hbr] at e3
    exact ⟨hs, hpi.inv.ext, K1 + K2 + K3, out, b, e1 _ (by omega), e2 _ (by omega), hfit, .inr ⟨hb0, i, c, rfl, hi', e3 _ (by omega)⟩⟩
theorem prop_end {w0 w w1 w3 w4 w6 W : World} {n : Int} {cs : List (List Int)} {vals vals' : List Int} {cls' : List (List Int × Int × Int)} {marks now : List S48} {ok : Nat → Prop} {g : Nat} {v : Value} (hs1 : w1.heap.size = w.heap.size + 2) (hb1 : Below w.heap.size w w1)
    (hpi : PI (PInv n cs vals marks) cs (fun k => (ok k ∧ k < w.heap.size) ∨ w1.heap.size ≤ k) g w1 w3 vals' cls' now) (hsi : SInv n vals' cls' now cs) (hr4 : Rest w w4 ok) (hb4 : Below w3.heap.size w3 w4) (hv : Kd.R k48 48 w4 w3.heap.size (fun _ => True) v now) (hb6 : Below w4.heap.size w4 w6) (hW : Rest w6 W (fun k => k = w.heap.size ∨ k = w.heap.size + 1)) : PropPost w0 w n cs marks ok g W vals' cls' now v := by
  have z1 := hpi.rest.size
  have z2 := hb4.size
  have z3 := hb6.size
  refine ⟨hsi, ⟨fun k => ((ok k ∧ k < w.heap.size) ∨ w1.heap.size ≤ k) ∧ k < w3.heap.size, fun k => w3.heap.size ≤ k, fun k h1 h2 => by omega, fun k h => by
    rcases h.1 with q | q
    · exact .inl q.1
    · exact .inr (by omega), fun k h => by omega, ?_, ?_⟩, ?_⟩
  · refine hpi.st.bound.step (fun k hk _ => ?_)
    have hk3 := hk.2
    rw [hW.block k (by omega) (by intro q; rcases hk.1 with z | z <;> rcases q with q | q <;> omega), hb6.block k (by omega), hb4.block k hk3]
  · refine Kd.R_step (Kd.R_mono (Kd.R_lower (Kd.R_bound hv) (Nat.zero_le _)) (fun k q => q.2.1)) (fun k hk hl => ?_)
    rw [hW.block k (by omega) (by intro q; rcases q with q | q <;> omega), hb6.block k hl]
  · refine (hr4.trans (Rest.of_below hb6 (fun _ => False)) (fun _ _ q => q.elim)).trans hW (fun k hk q => ?_)
    rcases q with q | q <;> omega
set_option maxHeartbeats 16000000 in
set_option maxRecDepth 100000 in
theorem propagate_walk (w0 : World) (ok : Nat → Prop) (g : Nat) (vals : List Int) (cls : List (List Int × Int × Int)) (marks : List S48) (Al : Option Addr) (cl : Nat) (cs : List (List Int)) (Am : Option Addr) (cm : Nat) (w : World) (n : Int) (h : St w ok g vals cls marks) (hi : SInv n vals cls marks cs)
    (hrl : Kd.C (Kd.slice 3 (Kd.int .i64)) w Al cs.length cs) (hcl : cs.length ≤ cl) (hrm : Kd.C k48 w Am marks.length marks) (hcm : marks.length ≤ cm) (hkl : ∀ w', Rest w w' ok → Kd.C (Kd.slice 3 (Kd.int .i64)) w' Al cs.length cs) (hkm : ∀ w', Rest w w' ok → Kd.C k48 w' Am marks.length marks) :
    Calls Try.prog 54 #[.pointer (some ⟨g, 0, none⟩), .agg #[.int .i64 n, .slice Al cs.length cl, .slice Am marks.length cm]] w fun e w' => ∃ vals' cls' marks' A c, e = .returned (.tuple #[.agg #[.int .i64 n, .slice Al cs.length cl, .slice A marks'.length c], .bool true]) ∧ PropPost w0 w n cs marks ok g w' vals' cls' marks' (.slice A marks'.length c) := by
  have H := Aside0.mk h
  have HI := Aside0.mk hi
  have HKL := Aside0.mk hkl
  have HKM := Aside0.mk hkm
  have HCL := Aside0.mk (And.intro hcl hcm)
  obtain ⟨hl1, hl2, hl3, hl4⟩ := hi.len
  have hl5 : cs.length ≤ 4194304 := by omega
  have hl6 : marks.length ≤ 4194304 := by omega
  clear h hi hkl hkm hrl hrm hcl hcm hl1
  go_enter Try.func54, Try.ntmps54
  go_wp2_with fail
  obtain ⟨w1, hw1⟩ : ∃ w1, w1 = (w.alloc (.cells #[.int .i64 n, .slice Al cs.length cl, .slice Am marks.length cm] 65)).alloc (.cells #[.int .i64 0, .slice none 0 0, .slice none 0 0] 65) := ⟨_, rfl⟩
  have b0 : w1.cell? ⟨w.heap.size, 0, none⟩ = some (.int .i64 n) := by rw [hw1]; simp [go_sem]
  have b1 : w1.cell? ⟨w.heap.size, 1, none⟩ = some (.slice Al cs.length cl) := by rw [hw1]; simp [go_sem]
  have b2 : w1.cell? ⟨w.heap.size, 2, none⟩ = some (.slice Am marks.length cm) := by rw [hw1]; simp [go_sem]
  have B0 : Aside0 (w1.heap.size = w.heap.size + 2 ∧ Below w.heap.size w w1 ∧ w1.heap[w.heap.size]? = some (.cells #[.int .i64 n, .slice Al cs.length cl, .slice Am marks.length cm] 65 (0, 0)) ∧ w1.heap[w.heap.size + 1]? = some (.cells #[.int .i64 0, .slice none 0 0, .slice none 0 0] 65 (0, 0))) := by
    refine ⟨?_, ?_, ?_, ?_⟩
    · rw [hw1]; simp
    · rw [hw1]; exact below_alloc (below_alloc (Below.refl _ _) _) _
    · rw [hw1]; exact ((below_alloc (Below.refl _ _) _).block w.heap.size (by simp)).trans (heap_alloc_new w _)
    · rw [hw1]; have := heap_alloc_new (w.alloc (.cells #[.int .i64 n, .slice Al cs.length cl, .slice Am marks.length cm] 65)) (.cells #[.int .i64 0, .slice none 0 0, .slice none 0 0] 65); simpa using this
  rw [← hw1]
  clear hw1
  refine (st_Propagate (PInv n cs vals marks) cs (fun k => (ok k ∧ k < w.heap.size) ∨ w1.heap.size ≤ k) g vals cls marks w1 (PInv.step HI.out.n0 HI.out.lits) (fun k hk => .inr hk) (PI_start HI.out H.out B0.out.2.1 (fun k q1 q2 => .inl ⟨q1, q2⟩))).mono ?_
  rintro e w3 ⟨vals', cls', now, x, rfl, hpi, hor⟩
  have hf := prop_facts HI.out hpi hor
  have HPI := Aside0.mk hpi
  have HF := Aside0.mk hf
  clear hpi hor hf b0 b1 b2
  go_wp2_with fail
  refine (st_Marks _ g vals' cls' now w3 HPI.out.st (by have := HF.out.1.len; omega)).mono ?_
  rintro e w4 ⟨v4, rfl, hv4, hb4⟩
  obtain ⟨A4, c4, rfl⟩ := Kd.R_slice hv4
  have hB3 : w3.heap[w.heap.size]? = some (.cells #[.int .i64 n, .slice Al cs.length cl, .slice Am marks.length cm] 65 (0, 0)) := (HPI.out.rest.block _ (by have := B0.out.1; omega) (fun q => by have := B0.out.1; rcases q with q | q <;> omega)).trans B0.out.2.2.1
  have hB3' : w3.heap[w.heap.size + 1]? = some (.cells #[.int .i64 0, .slice none 0 0, .slice none 0 0] 65 (0, 0)) := (HPI.out.rest.block _ (by have := B0.out.1; omega) (fun q => by have := B0.out.1; rcases q with q | q <;> omega)).trans B0.out.2.2.2
  have hB4 := (hb4.block _ (blk_lt hB3)).trans hB3
  have hB4' := (hb4.block _ (blk_lt hB3')).trans hB3'
  have hb13 : Rest w w3 ok := (Rest.of_below B0.out.2.1 ok).trans HPI.out.rest (fun k hk q => by have := B0.out.1; rcases q with q | q; exact q.1; omega)
  have hr4 : Rest w w4 ok := hb13.trans (Rest.of_below hb4 (fun _ => False)) (fun _ _ q => q.elim)
  obtain ⟨HSI, ⟨ext, hext, hne⟩, k, out, b, eC, eS, eF, eE⟩ := HF.out
  have hml : marks.length ≤ now.length := by rw [hext, List.length_append]; omega
  have htake : now.take marks.length = marks := by rw [hext, List.take_left]
  have hC4 := (Kd.R_reads' hv4).2.2
  have hc4 := (Kd.R_reads' hv4).2.1
  have HC4 := Aside0.mk (And.intro hc4 hC4)
  have HT4 : Aside0 (Kd.C k48 w4 A4 marks.length marks) := ⟨by have := Kd.C_take hC4 hml; rwa [htake] at this⟩
  have HV4 := Aside0.mk hv4
  have HR4 := Aside0.mk hr4
  have HB4 := Aside0.mk (And.intro hB4 (And.intro hB4' hb4))
  have HSI' := Aside0.mk HSI
  have HEX := Aside0.mk (And.intro hext hne)
  have HEF := Aside0.mk eF
  have HEE := Aside0.mk eE
  have HEC := Aside0.mk eC
  have HES := Aside0.mk eS
  have HKL4 := Aside0.mk (HKL.out w4 hr4)
  have HKM4 := Aside0.mk (HKM.out w4 hr4)
  have hnl := HSI.len.2.2.1
  have k0 := blk_cell hB4 0
  have k1 := blk_cell hB4 1
  have k2 := blk_cell hB4 2
  have dlt : decide (now.length < marks.length) = false := decide_eq_false (by omega)
  have hmc : marks.length ≤ c4 := by omega
  clear hv4 hb4 hB3 hB3' hB4 hB4' hb13 hr4 hC4 hc4 HSI hext hne eC eS eF eE htake HF
  go_wp2_with fail
  go_quiet ((go_at_call 56; refine Calls.quiet_of (Calls.mono (fulcrumlaw20_sameMarks.calls k A4 c4 marks Am cm marks true _ (by repeat (first | exact HT4.out | refine Kd.C_drewN ?_ _ | refine Kd.C_drew ?_)) hmc (by repeat (first | exact HKM4.out | refine Kd.C_drewN ?_ _ | refine Kd.C_drew ?_)) HCL.out.2 HES.out) (fun _ _ h => ⟨h.1, h.2.out⟩))))
  go_wp2
  have hBs : w.heap.size < w4.heap.size := blk_lt HB4.out.1
  have HBS := Aside0.mk hBs
  have HLp : Aside0 (Below w4.heap.size w4 (w4.drewN nq)) := ⟨pw_below_drewN (Below.refl _ _) nq⟩
  have hnowl := hnl
  clear k0 k1 k2 dlt hBs
  go_loopg [8] (now.length - marks.length) (fun kq v8 w' => ∃ i : Nat, v8 = .int .i64 (i : Int) ∧ Aside0 (i + kq = now.length ∧ marks.length ≤ i) ∧ Aside0 (Below w4.heap.size w4 w'))
  case atStart => exact ⟨marks.length, rfl, ⟨by omega, Nat.le_refl _⟩, HLp⟩
  case round =>
    obtain ⟨i, rfl, HJ, HW⟩ := hrel
    clear HLp
    have k0 := (HW.out.cell (p := ⟨w.heap.size, 0, none⟩) HBS.out).trans (blk_cell HB4.out.1 0)
    have k1 := (HW.out.cell (p := ⟨w.heap.size, 1, none⟩) HBS.out).trans (blk_cell HB4.out.1 1)
    have k2 := (HW.out.cell (p := ⟨w.heap.size, 2, none⟩) HBS.out).trans (blk_cell HB4.out.1 2)
    have hws : w.heap.size < wr.heap.size := Nat.lt_of_lt_of_le HBS.out HW.out.size
    cases gk with
    | succ kk =>
      have hlt : i < now.length := by have := HJ.out.1; omega
      obtain ⟨g4, c4', e1, _, hg4, _⟩ := Kd.R_form HV4.out (by omega)
      injection e1 with e1 e2 e3
      subst e1 e3
      obtain ⟨ad, e4, n0, n1, n2⟩ := at_T48 (Kd.C_below HC4.out.2 HW.out) (i : Int) (by omega) (by omega)
      injection e4 with e4
      subst e4
      rw [Int.toNat_natCast, addr_add0] at n0 n1 n2
      dsimp only at n1 n2
      have hg4r : g4 < wr.heap.size := Nat.lt_of_lt_of_le hg4 HW.out.size
      have hne2 : (rd_T48 now (i : Int)).f2 ≠ -1 := HEX.out.2 _ (by
        have h1 := HEX.out.1
        have h2 := rdm_get hlt
        rw [h1, List.getElem?_append_right HJ.out.2] at h2
        rw [← h1] at h2
        exact List.mem_of_getElem? h2)
      obtain ⟨k', hk'⟩ := HEF.out i hlt
      obtain ⟨pre, hpre⟩ : ∃ pre, pre = now.take i := ⟨_, rfl⟩
      have hpl : pre.length = i := by rw [hpre, List.length_take]; omega
      have hpC : Kd.C k48 wr (some ⟨g4, 0, none⟩) pre.length pre := by
        have := Kd.C_take (Kd.C_below HC4.out.2 HW.out) (m := i) (by omega)
        rwa [← hpre] at this
      rw [← hpre] at hk'
      obtain ⟨f0, hf0⟩ : ∃ f, f = (rd_T48 now (i : Int)).f0 := ⟨_, rfl⟩
      obtain ⟨f1, hf1⟩ : ∃ f, f = (rd_T48 now (i : Int)).f1 := ⟨_, rfl⟩
      obtain ⟨f2, hf2⟩ : ∃ f, f = (rd_T48 now (i : Int)).f2 := ⟨_, rfl⟩
      rw [← hf0, ← hf1, ← hf2] at hk'
      rw [← hf0] at n0
      rw [← hf1] at n1
      rw [← hf2] at n2 hne2
      have df2 : (f2 == -1) = false := beq_eq_false_iff_ne.2 hne2
      have HFC : Aside0 (∀ W, Below wr.heap.size wr W → Calls Try.prog 59 #[.int .i64 n, .slice Al cs.length cl, .slice (some ⟨g4, 0, none⟩) i c4, .agg #[.int .i64 f0, .int .i64 f1, .int .i64 f2]] W (fun e w' => e = .returned (.bool true) ∧ Below W.heap.size W w')) := ⟨fun W hW => by
        have := fulcrumref20_Fits.calls k' n Al cl cs (some ⟨g4, 0, none⟩) c4 pre f0 f1 f2 true W (Kd.C_below HKL4.out (below_step HW.out hW)) HCL.out.1 (Kd.C_below hpC hW) (by have := HC4.out.1; omega) hk'
        rwa [hpl] at this⟩
      have hic : i ≤ c4 := by have := HC4.out.1; omega
      have HHG := Aside0.mk hg4r
      have HHW := Aside0.mk hws
      clear hk' hpl hpC hpre hf0 hf1 hf2 hne2 e2 hg4 hg4r hws
      go_wp2_with fail
      go_region_held3 (fun w' => w'.cell? ⟨w.heap.size, 0, none⟩ = some (.int .i64 n) ∧ w'.cell? ⟨w.heap.size, 1, none⟩ = some (.slice Al cs.length cl) ∧ w'.cell? ⟨g4, i * 3, none⟩ = some (.int .i64 f0) ∧ w'.cell? ⟨g4, i * 3 + 1, none⟩ = some (.int .i64 f1) ∧ w'.cell? ⟨g4, i * 3 + 2, none⟩ = some (.int .i64 f2)) (go_keep)
        (first | (go_at_call 59; refine (HFC.out _ (by repeat (first | exact Below.refl _ _ | apply below_drew1 | apply pw_below_drewN))).mono ?_; rintro e w6 ⟨rfl, hb6⟩; have hb6' : Below wr.heap.size wr w6 := below_step (by repeat (first | exact Below.refl _ _ | apply below_drew1 | apply pw_below_drewN)) hb6; have q0 := (hb6'.cell (p := ⟨w.heap.size, 0, none⟩) HHW.out).trans k0; have q1 := (hb6'.cell (p := ⟨w.heap.size, 1, none⟩) HHW.out).trans k1; have q3 := (hb6'.cell (p := ⟨g4, i * 3, none⟩) HHG.out).trans n0; have q4 := (hb6'.cell (p := ⟨g4, i * 3 + 1, none⟩) HHG.out).trans n1; have q5 := (hb6'.cell (p := ⟨g4, i * 3 + 2, none⟩) HHG.out).trans n2; have HB6 := Aside0.mk hb6'; clear hb6 hb6'))
      go_wp2
      go_roundg kk
      case measure => omega
      case rel => exact ⟨i + 1, by go_num, ⟨by have := HJ.out.1; omega, by have := HJ.out.2; omega⟩, ⟨by repeat (first | exact below_step HW.out HB6.out | apply below_drew1 | apply pw_below_drewN)⟩⟩
    | zero =>
      obtain rfl : i = now.length := by have := HJ.out.1; omega
      go_wp2_with fail
      refine (fulcrumref20_Close.calls k Al cl cs Am cm marks out b _ (Kd.C_below HKL4.out HW.out) HCL.out.1 (Kd.C_below HKM4.out HW.out) HCL.out.2 HEC.out).mono ?_
      rintro e w6 ⟨v6, rfl, hv6, hb6⟩
      have HB6 := Aside0.mk (below_step HW.out hb6)
      have hblk := (HB6.out.block _ HBS.out).trans HB4.out.1
      have hblk' := (HB6.out.block _ (blk_lt HB4.out.2.1)).trans HB4.out.2.1
      have k0 := blk_cell hblk 0
      have k1 := blk_cell hblk 1
      have k2 := blk_cell hblk 2
      have f2 := blk_frozen hblk 2
      have f3 := blk_frozen hblk' 0
      have f4 := blk_frozen hblk' 1
      have f5 := blk_frozen hblk' 2
      have r0 := blk_cell hblk' 0
      have r1 := blk_cell hblk' 1
      have r2 := blk_cell hblk' 2
      have HBK := Aside0.mk (And.intro hblk hblk')
      clear hv6 hb6 hblk hblk'
      rcases HEE.out with ⟨hb0, rfl, hrest⟩ | ⟨hb0, i2, c2, rfl, hi2, hbrk⟩
      · have db : decide (b < 0) = true := decide_eq_true hb0
        clear hb0
        go_wp2_with fail
        obtain ⟨w7, hw7⟩ : ∃ w7, w7 = w6.setCell ⟨w.heap.size, 2, none⟩ (.slice A4 now.length c4) := ⟨_, rfl⟩
        have hblk7 := blk_set HBK.out.1 2 (.slice A4 now.length c4)
        have hblk7' := blk_far HBK.out.2 (fun e => Nat.succ_ne_self _ e) (p := ⟨w.heap.size, 2, none⟩) (.slice A4 now.length c4)
        rw [← hw7] at hblk7 hblk7' ⊢
        have HW7 := Aside0.mk hw7
        have HBK7 := Aside0.mk (And.intro hblk7 hblk7')
        clear k0 k1 k2 f2 f3 f4 f5 r0 r1 r2 hw7
        have k0 : w7.cell? ⟨w.heap.size, 0, none⟩ = some (.int .i64 n) := by rw [blk_cell hblk7]; rfl
        have k1 : w7.cell? ⟨w.heap.size, 1, none⟩ = some (.slice Al cs.length cl) := by rw [blk_cell hblk7]; rfl
        have k2 : w7.cell? ⟨w.heap.size, 2, none⟩ = some (.slice A4 now.length c4) := by rw [blk_cell hblk7]; rfl
        have f3 := blk_frozen hblk7' 0
        have f4 := blk_frozen hblk7' 1
        have f5 := blk_frozen hblk7' 2
        have r0 := blk_cell hblk7' 0
        have r1 := blk_cell hblk7' 1
        have r2 := blk_cell hblk7' 2
        clear hblk7 hblk7'
        have HRE := Aside0.mk hrest
        have hR67 : Rest w6 w7 (fun k => k = w.heap.size) := by rw [HW7.out]; exact Rest.set (ok := fun k => k = w.heap.size) (p := ⟨w.heap.size, 2, none⟩) (Rest.refl _ _) rfl _
        have hRw7 : Rest w w7 ok := (HR4.out.trans (Rest.of_below HB6.out (fun _ => False)) (fun _ _ q => q.elim)).trans hR67 (fun k hk q => by omega)
        have HK7 : Aside0 (Kd.C (Kd.slice 3 (Kd.int .i64)) w7 Al cs.length cs ∧ Kd.C k48 w7 A4 now.length now) := ⟨HKL.out w7 hRw7, (Kd.R_reads' (Kd.R_step (Kd.R_mono (Kd.R_lower (Kd.R_bound HV4.out) (Nat.zero_le _)) (ok' := fun k => w3.heap.size ≤ k) (fun k q => q.2.1)) (fun k hk hl => by
          have z1 := HPI.out.rest.size
          have z2 := B0.out.1
          rw [hR67.block k (Nat.lt_of_lt_of_le hl HB6.out.size) (by intro q; omega), HB6.out.block k hl]))).2.2⟩
        clear hR67 hRw7
        clear hrest
        go_region_held3 (fun w' => w'.cell? ⟨w.heap.size, 0, none⟩ = some (.int .i64 n) ∧ w'.cell? ⟨w.heap.size, 1, none⟩ = some (.slice Al cs.length cl) ∧ w'.cell? ⟨w.heap.size, 2, none⟩ = some (.slice A4 now.length c4)) (go_keep)
          (first | (go_at_call 22; refine (fulcrumref20_Rest.calls k Al cl cs A4 c4 now true _ (Kd.C_below HK7.out.1 (by repeat (first | exact Below.refl _ _ | apply below_drew1 | apply pw_below_drewN))) HCL.out.1 (Kd.C_below HK7.out.2 (by repeat (first | exact Below.refl _ _ | apply below_drew1 | apply pw_below_drewN))) HC4.out.1 HRE.out).mono ?_; rintro e w8 ⟨rfl, ⟨nd8, rfl⟩⟩))
        all_goals
          go_wp2
          obtain ⟨W, hW⟩ : ∃ W, W = ((((w7.drewN (1 + nd8)).setCell ⟨w.heap.size + 1, 0, none⟩ (.int .i64 n)).setCell ⟨w.heap.size + 1, 1, none⟩ (.slice Al cs.length cl)).setCell ⟨w.heap.size + 1, 2, none⟩ (.slice A4 now.length c4)) := ⟨_, rfl⟩
          have hblW : W.heap[w.heap.size + 1]? = some (.cells #[.int .i64 n, .slice Al cs.length cl, .slice A4 now.length c4] 65 (0, 0)) := by
            rw [hW]
            have := blk_set (blk_set (blk_set (w := w7.drewN (1 + nd8)) HBK7.out.2 0 (.int .i64 n)) 1 (.slice Al cs.length cl)) 2 (.slice A4 now.length c4)
            simpa using this
          have s0 := blk_cell hblW 0
          have s1 := blk_cell hblW 1
          have s2 := blk_cell hblW 2
          have hRW : Rest w6 W (fun k => k = w.heap.size ∨ k = w.heap.size + 1) := by
            rw [hW, HW7.out]
            exact Rest.set (p := ⟨w.heap.size + 1, 2, none⟩) (Rest.set (p := ⟨w.heap.size + 1, 1, none⟩) (Rest.set (p := ⟨w.heap.size + 1, 0, none⟩) ((Rest.set (p := ⟨w.heap.size, 2, none⟩) (Rest.refl _ _) (.inl rfl) _).drewN _) (.inr rfl) _) (.inr rfl) _) (.inr rfl) _
          rw [← hW]
          have HEND := Aside0.mk (prop_end (w0 := w0) B0.out.1 B0.out.2.1 HPI.out HSI'.out HR4.out HB4.out.2.2 HV4.out HB6.out hRW)
          clear hW hRW k0 k1 k2 f3 f4 f5 r0 r1 r2
          refine bodyPost_ret (v := .tuple #[.agg #[.int .i64 n, .slice Al cs.length cl, .slice A4 now.length c4], .bool true]) ?_ rfl ⟨vals', cls', now, A4, c4, rfl, HEND.out⟩
          simp [results, Try.results54, go_sem, s0, s1, s2]
      · have db : decide (b < 0) = false := decide_eq_false (by omega)
        clear hb0
        go_wp2_with fail
        obtain ⟨w7, hw7⟩ : ∃ w7, w7 = w6.setCell ⟨w.heap.size, 2, none⟩ (.slice A4 now.length c4) := ⟨_, rfl⟩
        have hblk7 := blk_set HBK.out.1 2 (.slice A4 now.length c4)
        have hblk7' := blk_far HBK.out.2 (fun e => Nat.succ_ne_self _ e) (p := ⟨w.heap.size, 2, none⟩) (.slice A4 now.length c4)
        rw [← hw7] at hblk7 hblk7' ⊢
        have HW7 := Aside0.mk hw7
        have HBK7 := Aside0.mk (And.intro hblk7 hblk7')
        clear k0 k1 k2 f2 f3 f4 f5 r0 r1 r2 hw7
        have k0 : w7.cell? ⟨w.heap.size, 0, none⟩ = some (.int .i64 n) := by rw [blk_cell hblk7]; rfl
        have k1 : w7.cell? ⟨w.heap.size, 1, none⟩ = some (.slice Al cs.length cl) := by rw [blk_cell hblk7]; rfl
        have k2 : w7.cell? ⟨w.heap.size, 2, none⟩ = some (.slice A4 now.length c4) := by rw [blk_cell hblk7]; rfl
        have f3 := blk_frozen hblk7' 0
        have f4 := blk_frozen hblk7' 1
        have f5 := blk_frozen hblk7' 2
        have r0 := blk_cell hblk7' 0
        have r1 := blk_cell hblk7' 1
        have r2 := blk_cell hblk7' 2
        clear hblk7 hblk7'
        have HRE := Aside0.mk hbrk
        have hR67 : Rest w6 w7 (fun k => k = w.heap.size) := by rw [HW7.out]; exact Rest.set (ok := fun k => k = w.heap.size) (p := ⟨w.heap.size, 2, none⟩) (Rest.refl _ _) rfl _
        have hRw7 : Rest w w7 ok := (HR4.out.trans (Rest.of_below HB6.out (fun _ => False)) (fun _ _ q => q.elim)).trans hR67 (fun k hk q => by omega)
        have HK7 : Aside0 (Kd.C (Kd.slice 3 (Kd.int .i64)) w7 Al cs.length cs ∧ Kd.C k48 w7 A4 now.length now) := ⟨HKL.out w7 hRw7, (Kd.R_reads' (Kd.R_step (Kd.R_mono (Kd.R_lower (Kd.R_bound HV4.out) (Nat.zero_le _)) (ok' := fun k => w3.heap.size ≤ k) (fun k q => q.2.1)) (fun k hk hl => by
          have z1 := HPI.out.rest.size
          have z2 := B0.out.1
          rw [hR67.block k (Nat.lt_of_lt_of_le hl HB6.out.size) (by intro q; omega), HB6.out.block k hl]))).2.2⟩
        clear hR67 hRw7
        have hi2l := (List.getElem?_eq_some_iff.1 hi2).1
        obtain ⟨ad, Ax, cx, e5, hxc, hcx, hxC⟩ := at_L2 HK7.out.1 (i2 : Int) (by omega) (by omega)
        rw [Int.toNat_natCast] at hxc
        have ec2 : rd_L2 cs (i2 : Int) = c2 := Option.some.inj ((rdl_get hi2l).symm.trans hi2)
        rw [ec2] at hxc hcx hxC
        subst e5
        have hadb : (ad.add i2).block < w.heap.size := by
          obtain ⟨ad', _, _, e6, hq, _⟩ := at_L2 (HKL.out w (Rest.refl _ _)) (i2 : Int) (by omega) (by omega)
          injection e6 with e6
          subst e6
          rw [Int.toNat_natCast] at hq
          exact World.block_lt_of_cell? _ _ hq
        have hset : ∀ (W : World) (j : Nat) (u : Value), (W.setCell ⟨w.heap.size + 1, j, none⟩ u).cell? (ad.add i2) = W.cell? (ad.add i2) := fun W j u => World.cell?_of_block (Below.heap_setCell W ⟨w.heap.size + 1, j, none⟩ u _ (by show (ad.add i2).block ≠ w.heap.size + 1; omega))
        have HXC := Aside0.mk (And.intro hcx hxC)
        have dge : decide ((0 : Int) ≤ (i2 : Int)) = true := decide_eq_true (by omega)
        have hi20 : (0 : Int) ≤ (i2 : Int) := by omega
        have hi2i : (i2 : Int) < (cs.length : Int) := by omega
        have dlt2 : decide (i2 < cs.length) = true := decide_eq_true hi2l
        clear hbrk hi2 ec2 hcx hxC
        go_region_held3 (fun w' => w'.cell? ⟨w.heap.size, 0, none⟩ = some (.int .i64 n) ∧ w'.cell? ⟨w.heap.size, 1, none⟩ = some (.slice (some ad) cs.length cl) ∧ w'.cell? ⟨w.heap.size, 2, none⟩ = some (.slice A4 now.length c4) ∧ w'.cell? (ad.add i2) = some (.slice Ax c2.length cx)) (go_keep)
          (first | (go_at_call 17; refine (fulcrumref20_Broken.calls k Ax cx c2 A4 c4 now true _ (Kd.C_below HXC.out.2 (by repeat (first | exact Below.refl _ _ | apply below_drew1 | apply pw_below_drewN))) HXC.out.1 (Kd.C_below HK7.out.2 (by repeat (first | exact Below.refl _ _ | apply below_drew1 | apply pw_below_drewN))) HC4.out.1 HRE.out).mono ?_; rintro e w8 ⟨rfl, ⟨nd8, rfl⟩⟩))
        all_goals
          go_wp2
          obtain ⟨W, hW⟩ : ∃ W, W = ((((w7.drewN (1 + nd8)).setCell ⟨w.heap.size + 1, 0, none⟩ (.int .i64 n)).setCell ⟨w.heap.size + 1, 1, none⟩ (.slice (some ad) cs.length cl)).setCell ⟨w.heap.size + 1, 2, none⟩ (.slice A4 now.length c4)) := ⟨_, rfl⟩
          have hblW : W.heap[w.heap.size + 1]? = some (.cells #[.int .i64 n, .slice (some ad) cs.length cl, .slice A4 now.length c4] 65 (0, 0)) := by
            rw [hW]
            have := blk_set (blk_set (blk_set (w := w7.drewN (1 + nd8)) HBK7.out.2 0 (.int .i64 n)) 1 (.slice (some ad) cs.length cl)) 2 (.slice A4 now.length c4)
            simpa using this
          have s0 := blk_cell hblW 0
          have s1 := blk_cell hblW 1
          have s2 := blk_cell hblW 2
          have hRW : Rest w6 W (fun k => k = w.heap.size ∨ k = w.heap.size + 1) := by
            rw [hW, HW7.out]
            exact Rest.set (p := ⟨w.heap.size + 1, 2, none⟩) (Rest.set (p := ⟨w.heap.size + 1, 1, none⟩) (Rest.set (p := ⟨w.heap.size + 1, 0, none⟩) ((Rest.set (p := ⟨w.heap.size, 2, none⟩) (Rest.refl _ _) (.inl rfl) _).drewN _) (.inr rfl) _) (.inr rfl) _) (.inr rfl) _
          rw [← hW]
          have HEND := Aside0.mk (prop_end (w0 := w0) B0.out.1 B0.out.2.1 HPI.out HSI'.out HR4.out HB4.out.2.2 HV4.out HB6.out hRW)
          clear hW hRW hxc hset hadb k0 k1 k2 f3 f4 f5 r0 r1 r2
          refine bodyPost_ret (v := .tuple #[.agg #[.int .i64 n, .slice (some ad) cs.length cl, .slice A4 now.length c4], .bool true]) ?_ rfl ⟨vals', cls', now, A4, c4, rfl, HEND.out⟩
          simp [results, Try.results54, go_sem, s0, s1, s2]

end Go.Proofs.Ytegaaobiedfjcaa.PU
