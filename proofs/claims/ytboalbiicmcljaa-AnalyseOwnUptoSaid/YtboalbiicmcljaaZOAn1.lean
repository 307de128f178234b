import Derived.Test.YtboalbiicmcljaaZOPANx0
import Derived.Test.YtboalbiicmcljaaZOHIntMap
import Derived.IntWalk
namespace Go.Proofs.Ytboalbiicmcljaa.PAN
open Go.RowKit Go.Proofs.YtboalbiicmcljaaW.PrintWords Go.Proofs.YtboalbiicmcljaaW.PrintLast Go.Proofs.YtboalbiicmcljaaW.PrintMore Go.Proofs.YtboalbiicmcljaaH
set_option linter.unusedVariables false
set_option linter.unusedSimpArgs false
abbrev Mk := S49
def litB (l : Int) : Bool := decide (l ≠ 0 ∧ l ≠ -9223372036854775808)
def hasM (ms : List Mk) (l : Int) : Bool := ms.any fun m => m.f0 == l
def placeN (ms : List Mk) (l : Int) : Nat := ms.findIdx fun m => m.f0 == l
def isFalseB (ms : List Mk) (l : Int) : Bool := litB l && hasM ms (-l)
def forcesB (ms : List Mk) (c : List Int) (l : Int) : Bool := c.contains l && c.all fun x => x == l || isFalseB ms x
def lvlM (ms : List Mk) : Int := match ms.getLast? with
  | none => 0
  | some m => m.f1
def rdC (cs : List (List Int)) (i : Int) : List Int := cs.getD i.toNat []
def okAtB (cs : List (List Int)) (pre : List Mk) (m : Mk) : Bool :=
  litB m.f0 && (!hasM pre m.f0 && !hasM pre (-m.f0)) && (if m.f2 = -1 then m.f1 == lvlM pre + 1 else decide (0 ≤ m.f2 ∧ m.f2 < cs.length) && forcesB pre (rdC cs m.f2) m.f0 && m.f1 == lvlM pre)
def validB (cs : List (List Int)) : List Mk → List Mk → Bool
  | _, [] => true
  | pre, m :: r => okAtB cs pre m && validB cs (pre ++ [m]) r
def keysM (ms : List Mk) : List Int := ms.map (·.f0)
def plF (ms : List Mk) : Int → Int := fun l => placeN ms l
theorem hasM_mem {ms : List Mk} {l : Int} : hasM ms l = true ↔ l ∈ keysM ms := by
  simp [hasM, keysM]
theorem mem_keysM {ms : List Mk} {l : Int} : (decide (l ∈ keysM ms)) = hasM ms l := by
  rw [Bool.eq_iff_iff, decide_eq_true_iff, hasM_mem]
theorem placeN_lt {ms : List Mk} {l : Int} : placeN ms l < ms.length ↔ hasM ms l = true := by
  unfold placeN hasM
  rw [List.findIdx_lt_length, List.any_eq_true]
theorem placeN_le (ms : List Mk) (l : Int) : placeN ms l ≤ ms.length := List.findIdx_le_length
theorem placeN_snoc_old {ms : List Mk} {l : Int} (m : Mk) (h : hasM ms l = true) : placeN (ms ++ [m]) l = placeN ms l := by
  unfold placeN
  rw [List.findIdx_append, if_pos (by rw [List.findIdx_lt_length, ← List.any_eq_true]; exact h)]
theorem placeN_snoc_new {ms : List Mk} {m : Mk} (h : hasM ms m.f0 = false) : placeN (ms ++ [m]) m.f0 = ms.length := by
  unfold placeN
  rw [List.findIdx_append, if_neg (by rw [List.findIdx_lt_length, ← List.any_eq_true]; unfold hasM at h; rw [h]; simp)]
  simp
theorem placeN_get {ms : List Mk} {l : Int} (h : hasM ms l = true) : ∃ m, ms[placeN ms l]? = some m ∧ m.f0 = l := by
  have h1 := placeN_lt.2 h
  refine ⟨ms[placeN ms l], List.getElem?_eq_getElem h1, ?_⟩
  have := List.findIdx_getElem (p := fun m : Mk => m.f0 == l) (w := h1)
  exact beq_iff_eq.1 this
theorem litB_iff {l : Int} : litB l = true ↔ l ≠ 0 ∧ l ≠ -9223372036854775808 := by simp [litB]
theorem lvlM_snoc (ms : List Mk) (m : Mk) : lvlM (ms ++ [m]) = m.f1 := by simp [lvlM]
theorem take_mk {l : List Mk} {i : Nat} (h : i < l.length) : l.take (i + 1) = l.take i ++ [rd_T49 l (i : Int)] := by
  rw [List.take_add_one, List.getElem?_eq_getElem h]
  simp [rd_T49, List.getD_eq_getElem?_getD, List.getElem?_eq_getElem h]
theorem drop_mk {l : List Mk} {i : Nat} (h : i < l.length) : l.drop i = rd_T49 l (i : Int) :: l.drop (i + 1) := by
  rw [List.drop_eq_getElem_cons h]
  simp [rd_T49, List.getD_eq_getElem?_getD, List.getElem?_eq_getElem h]
theorem keysM_snoc (ms : List Mk) (m : Mk) : keysM (ms ++ [m]) = keysM ms ++ [m.f0] := by simp [keysM]
theorem plF_snoc {ms : List Mk} {m : Mk} (h : hasM ms m.f0 = false) : ∀ x ∈ keysM (ms ++ [m]), updF (plF ms) m.f0 (ms.length : Int) x = plF (ms ++ [m]) x := by
  intro x hx
  unfold updF plF
  by_cases he : x = m.f0
  · rw [if_pos he, he, placeN_snoc_new h]
  · rw [if_neg he, placeN_snoc_old]
    rw [keysM_snoc] at hx
    rw [hasM_mem]
    rcases List.mem_append.1 hx with hx | hx
    · exact hx
    · simp at hx; exact absurd hx he
theorem insK_new {ms : List Mk} {m : Mk} (h : hasM ms m.f0 = false) : insK (keysM ms) m.f0 = keysM (ms ++ [m]) := by
  unfold insK
  rw [if_neg (by rw [← hasM_mem, h]; simp), keysM_snoc]
structure Wf (cs : List (List Int)) (ms : List Mk) : Prop where
  c : ∀ c ∈ cs, ∀ x ∈ c, w64 x
  m : ∀ m ∈ ms, w64 m.f0 ∧ w64 m.f1 ∧ w64 m.f2
  lm : ms.length ≤ 4194304
  lc : cs.length ≤ 4194304
  lcl : ∀ c ∈ cs, c.length ≤ 4194304
theorem Wf.mk_rd {cs : List (List Int)} {ms : List Mk} (h : Wf cs ms) {i : Nat} (hi : i < ms.length) : w64 (rd_T49 ms (i : Int)).f0 ∧ w64 (rd_T49 ms (i : Int)).f1 ∧ w64 (rd_T49 ms (i : Int)).f2 := by
  apply h.m
  unfold rd_T49
  rw [Int.toNat_natCast, List.getD_eq_getElem?_getD, List.getElem?_eq_getElem hi]
  exact List.getElem_mem hi
theorem rdC_mem {cs : List (List Int)} {i : Int} (h0 : 0 ≤ i) (h1 : i < cs.length) : rdC cs i ∈ cs := by
  unfold rdC
  have hi : i.toNat < cs.length := by omega
  rw [List.getD_eq_getElem?_getD, List.getElem?_eq_getElem hi]
  exact List.getElem_mem hi
theorem zero3 : ∀ w : World, (zeroValue 3).run Try.prog w = .ok (.int .i64 0) w := fun w => by kernel_rfl
theorem wneg {x : Int} (h : w64 x) (hl : litB x = true) : IntKind.i64.wrap (-x) = -x ∧ w64 (-x) := by
  rw [w64_iff] at h
  rw [litB_iff] at hl
  exact ⟨IntWalk.i64_in _ (by omega), by rw [w64_iff]; omega⟩
def atomI (x : Int) : Int := if x = -9223372036854775808 then 0 else if x < 0 then -x else x
theorem atomI_zero {x : Int} (h : w64 x) : (atomI x == 0) = !litB x := by
  rw [w64_iff] at h
  have e : (atomI x = 0) ↔ (x = 0 ∨ x = -9223372036854775808) := by
    unfold atomI
    split
    · simp [*]
    · split <;> omega
  unfold litB
  rw [Bool.eq_iff_iff]
  simp [e]
set_option maxHeartbeats 1000000 in
theorem an_atom (x : Int) (hx : w64 x) (w : World) : Calls Try.prog 54 #[.int .i64 x] w fun e w' => e = .returned (.int .i64 (atomI x)) ∧ w = w' := by
  rw [w64_iff] at hx
  obtain ⟨h1, h2⟩ := hx
  by_cases c : x = -9223372036854775808
  · have c1 : (x == (-9223372036854775808)) = true := by simpa using c
    have hf : atomI x = 0 := if_pos c
    rw [hf]
    clear c hf
    go_enter Try.func54, Try.ntmps54
    go_wp2
    go_ret
    exact ⟨rfl, rfl⟩
  · have c1 : (x == (-9223372036854775808)) = false := by simpa using c
    have hw : IntKind.i64.wrap (-x) = -x := IntWalk.i64_in _ (by omega)
    by_cases c2 : x < 0
    · have hf : atomI x = -x := by unfold atomI; rw [if_neg c, if_pos c2]
      have c3 : decide (x < 0) = true := by simpa using c2
      rw [hf]
      clear c hf
      go_enter Try.func54, Try.ntmps54
      go_wp2
      go_ret
      exact ⟨rfl, rfl⟩
    · have hf : atomI x = x := by unfold atomI; rw [if_neg c, if_neg c2]
      have c3 : decide (x < 0) = false := by simpa using c2
      rw [hf]
      clear c hf
      go_enter Try.func54, Try.ntmps54
      go_wp2
      go_ret
      exact ⟨rfl, rfl⟩
structure Pl (w : World) (tb pb : Nat) (pre : List Mk) : Prop where
  c2 : w.cell? ⟨tb, 2, none⟩ = some (.map (some pb))
  map : IsMapF Try.prog 3 w pb (keysM pre) (plF pre)
set_option maxHeartbeats 1000000 in
theorem an_known (tb pb : Nat) (pre : List Mk) (l : Int) (w : World) (h : Pl w tb pb pre) (hl : w64 l) (hb : litB l = true) : Calls Try.prog 69 #[.pointer (some ⟨tb, 0, none⟩), .int .i64 l] w fun e w' => e = .returned (.bool (hasM pre l || hasM pre (-l))) ∧ w = w' := by
  obtain ⟨hn1, hn2⟩ := wneg hl hb
  have c2 := h.c2
  have r1 := h.map.run_look_ok Try.underlying63 Try.underlying3 zero3 hl
  have r2 := h.map.run_look_ok Try.underlying63 Try.underlying3 zero3 hn2
  rw [mem_keysM] at r1 r2
  obtain ⟨v1, hv1⟩ : ∃ v, v = (if l ∈ keysM pre then plF pre l else 0) := ⟨_, rfl⟩
  obtain ⟨v2, hv2⟩ : ∃ v, v = (if -l ∈ keysM pre then plF pre (-l) else 0) := ⟨_, rfl⟩
  rw [← hv1] at r1
  rw [← hv2] at r2
  obtain ⟨nl, hnl⟩ : ∃ n, n = -l := ⟨_, rfl⟩
  replace hn1 := hn1.trans hnl.symm
  rw [← hnl] at r2 ⊢
  obtain ⟨b1, hb1⟩ : ∃ b, b = hasM pre l := ⟨_, rfl⟩
  obtain ⟨b2, hb2⟩ : ∃ b, b = hasM pre nl := ⟨_, rfl⟩
  rw [← hb1] at r1 ⊢
  rw [← hb2] at r2 ⊢
  clear h hb hl hv1 hv2 hnl hb1 hb2 hn2
  cases b1 <;>
  · go_enter Try.func69, Try.ntmps69
    go_wp2
    go_ret
    exact ⟨rfl, rfl⟩
set_option maxHeartbeats 1000000 in
theorem an_isFalse (tb pb : Nat) (pre : List Mk) (l : Int) (w : World) (h : Pl w tb pb pre) (hl : w64 l) : Calls Try.prog 37 #[.pointer (some ⟨tb, 0, none⟩), .int .i64 l] w fun e w' => e = .returned (.bool (isFalseB pre l)) ∧ w = w' := by
  have ha := atomI_zero hl
  cases hb : litB l with
  | false =>
    have hr : isFalseB pre l = false := by unfold isFalseB; rw [hb]; rfl
    rw [hr]
    rw [hb] at ha
    obtain ⟨a, hae⟩ : ∃ a, a = atomI l := ⟨_, rfl⟩
    have HA := Aside0.mk hl
    have HE := Aside0.mk hae
    rw [← hae] at ha
    clear h hl hb hr hae
    go_enter Try.func37, Try.ntmps37
    go_wp2_with (go_at_call 54; refine (an_atom l HA.out _).mono ?_; rw [← HE.out]; rintro e w' ⟨rfl, rfl⟩)
    go_ret
    exact ⟨rfl, rfl⟩
  | true =>
    obtain ⟨hn1, hn2⟩ := wneg hl hb
    have c2 := h.c2
    have r2 := h.map.run_look_ok Try.underlying63 Try.underlying3 zero3 hn2
    rw [mem_keysM] at r2
    have hr : isFalseB pre l = hasM pre (-l) := by unfold isFalseB; rw [hb]; rfl
    rw [hr]
    rw [hb] at ha
    obtain ⟨v2, hv2⟩ : ∃ v, v = (if -l ∈ keysM pre then plF pre (-l) else 0) := ⟨_, rfl⟩
    rw [← hv2] at r2
    obtain ⟨nl, hnl⟩ : ∃ n, n = -l := ⟨_, rfl⟩
    replace hn1 := hn1.trans hnl.symm
    rw [← hnl] at r2 ⊢
    obtain ⟨b2, hb2⟩ : ∃ b, b = hasM pre nl := ⟨_, rfl⟩
    rw [← hb2] at r2 ⊢
    obtain ⟨a, hae⟩ : ∃ a, a = atomI l := ⟨_, rfl⟩
    have HA := Aside0.mk hl
    have HE := Aside0.mk hae
    rw [← hae] at ha
    clear h hb hl hv2 hnl hb2 hn2 hr hae
    go_enter Try.func37, Try.ntmps37
    go_wp2_with (go_at_call 54; refine (an_atom l HA.out _).mono ?_; rw [← HE.out]; rintro e w' ⟨rfl, rfl⟩)
    go_ret
    exact ⟨rfl, rfl⟩
theorem rdm {l : List Int} {i : Nat} (h : i < l.length) : rd l (i : Int) ∈ l := by
  unfold rd
  rw [Int.toNat_natCast, List.getD_eq_getElem?_getD, List.getElem?_eq_getElem h]
  exact List.getElem_mem h
theorem take_rd {l : List Int} {i : Nat} (h : i < l.length) : l.take (i + 1) = l.take i ++ [rd l (i : Int)] := by
  rw [List.take_add_one, List.getElem?_eq_getElem h]
  simp [rd, List.getD_eq_getElem?_getD, List.getElem?_eq_getElem h]
set_option maxHeartbeats 2000000 in
theorem an_forces (tb pb : Nat) (pre : List Mk) (A : Option Addr) (cap : Nat) (c : List Int) (l : Int) (w : World) (h : Pl w tb pb pre) (hc : Kd.C (Kd.int .i64) w A c.length c) (hw : ∀ x ∈ c, w64 x) :
    Calls Try.prog 70 #[.pointer (some ⟨tb, 0, none⟩), .slice A c.length cap, .int .i64 l] w fun e w' => e = .returned (.bool (forcesB pre c l)) ∧ w = w' := by
  have H := Aside0.mk h
  have HC := Aside0.mk hc
  have HW := Aside0.mk hw
  have hmax := Kd.C_max hc
  clear h hc hw
  go_enter Try.func70, Try.ntmps70
  go_wp2
  go_loopg [7, 12] c.length (fun kq v7 v12 w' => ∃ i : Nat, ∃ b : Bool, v7 = .bool b ∧ v12 = .int .i64 i ∧ i + kq = c.length ∧ Aside0 (b = (c.take i).contains l ∧ ((c.take i).all fun x => x == l || isFalseB pre x) = true) ∧ w = w')
  case atStart => exact ⟨0, false, rfl, rfl, by omega, ⟨by simp⟩, rfl⟩
  case round =>
    obtain ⟨i, b, rfl, rfl, hik, HJ, rfl⟩ := hrel
    cases gk with
    | succ k1 =>
      have hlt : i < c.length := by omega
      obtain ⟨ad, rfl, hx⟩ := Kd.at_int HC.out (i : Int) (by omega) (by omega)
      rw [Int.toNat_natCast] at hx
      have htk := take_rd hlt
      have HWX := Aside0.mk (HW.out _ (rdm hlt))
      obtain ⟨x, hxe⟩ : ∃ x, x = rd c (i : Int) := ⟨_, rfl⟩
      rw [← hxe] at hx htk HWX
      have HTK := Aside0.mk htk
      have hall : forcesB pre c l = (c.contains l && ((c.take (i + 1)).all (fun x => x == l || isFalseB pre x) && (c.drop (i + 1)).all fun x => x == l || isFalseB pre x)) := by
        unfold forcesB
        rw [← List.all_append, List.take_append_drop]
      have HALL := Aside0.mk hall
      clear hxe htk hall
      by_cases he : x = l
      · have heb : (x == l) = true := by simpa using he
        have HE := Aside0.mk he
        clear he
        go_wp2
        go_roundg k1
        case measure => omega
        case rel => exact ⟨i + 1, true, rfl, by go_num, by omega, ⟨by rw [HTK.out]; simp [HE.out], by rw [HTK.out, List.all_append, HJ.out.2]; simp [HE.out]⟩, rfl⟩
      · have heb : (x == l) = false := by simpa using he
        have HE := Aside0.mk he
        clear he
        cases hf : isFalseB pre x with
        | true =>
          have HF := Aside0.mk hf
          clear hf
          go_wp2_with (go_at_call 37; refine (an_isFalse tb pb pre x _ H.out HWX.out).mono ?_; rw [HF.out]; rintro e w' ⟨rfl, rfl⟩)
          go_roundg k1
          case measure => omega
          case rel => exact ⟨i + 1, b, rfl, by go_num, by omega, ⟨by rw [HTK.out, HJ.out.1, Bool.eq_iff_iff]; have := HE.out; simp; exact fun q => absurd q.symm this, by rw [HTK.out, List.all_append, HJ.out.2]; simp [HF.out]⟩, rfl⟩
        | false =>
          have HF := Aside0.mk hf
          clear hf
          go_wp2_with (go_at_call 37; refine (an_isFalse tb pb pre x _ H.out HWX.out).mono ?_; rw [HF.out]; rintro e w' ⟨rfl, rfl⟩)
          go_ret
          refine ⟨?_, rfl⟩
          rw [HALL.out, HTK.out, List.all_append]
          have : (([x]).all fun x => x == l || isFalseB pre x) = false := by simp [HE.out, HF.out]
          rw [this]
          simp
    | zero =>
      obtain rfl : i = c.length := by omega
      go_wp2
      go_ret
      refine ⟨?_, rfl⟩
      have h1 := HJ.out
      rw [List.take_length] at h1
      unfold forcesB
      rw [h1.1, h1.2]
      simp
def mkOf (ms : List Mk) (l : Int) : Mk := rd_T49 ms (placeN ms (-l) : Nat)
set_option maxHeartbeats 2000000 in
set_option maxRecDepth 100000 in
theorem an_mark (tb pb : Nat) (ms : List Mk) (A : Option Addr) (cap : Nat) (l : Int) (w : World) (h : Pl w tb pb ms) (c1 : w.cell? ⟨tb, 1, none⟩ = some (.slice A ms.length cap)) (hc : Kd.C k49 w A ms.length ms) (hl : w64 l) (hf : isFalseB ms l = true) :
    Calls Try.prog 57 #[.pointer (some ⟨tb, 0, none⟩), .int .i64 l] w fun e w' => e = .returned (.agg #[.int .i64 (mkOf ms l).f0, .int .i64 (mkOf ms l).f1, .int .i64 (mkOf ms l).f2]) ∧ Below w.heap.size w w' := by
  have hb : litB l = true ∧ hasM ms (-l) = true := by unfold isFalseB at hf; simpa using hf
  obtain ⟨hn1, hn2⟩ := wneg hl hb.1
  have hp := placeN_lt.2 hb.2
  have hmax := Kd.C_max hc
  have HC := Aside0.mk hc
  have HC1 := Aside0.mk c1
  have H := Aside0.mk h
  have HB := Aside0.mk hb.2
  have HN2 := Aside0.mk hn2
  unfold mkOf
  obtain ⟨m, hm⟩ : ∃ m, m = rd_T49 ms (placeN ms (-l) : Nat) := ⟨_, rfl⟩
  rw [← hm]
  obtain ⟨p, hpe⟩ : ∃ p, p = placeN ms (-l) := ⟨_, rfl⟩
  rw [← hpe] at hp hm
  have HP := Aside0.mk hpe
  have HM := Aside0.mk hm
  obtain ⟨nl, hnl⟩ : ∃ n, n = -l := ⟨_, rfl⟩
  replace hn1 := hn1.trans hnl.symm
  have HNL := Aside0.mk hnl
  obtain ⟨a, b, c⟩ := m
  simp only
  have hp0 : (0 : Int) ≤ (p : Int) := by omega
  have hp1 : (p : Int) < (ms.length : Int) := by omega
  clear h hc hb hf hnl hpe hm hl hn2 c1
  go_enter Try.func57, Try.ntmps57
  go_wp2
  obtain ⟨w1, hw1⟩ : ∃ w1, w1 = w.alloc (.cells #[.int .i64 0, .int .i64 0, .int .i64 0] 49) := ⟨_, rfl⟩
  have hbel : Below w.heap.size w w1 := by rw [hw1]; exact below_alloc (Below.refl _ _) _
  have b0 : w1.heap[w.heap.size]? = some (.cells #[.int .i64 0, .int .i64 0, .int .i64 0] 49 (0, 0)) := by rw [hw1]; exact heap_alloc_new _ _
  have d0 := blk_cell b0 0
  have d1 := blk_cell b0 1
  have d2 := blk_cell b0 2
  have e0 := blk_frozen b0 0
  have e1 := blk_frozen b0 1
  have e2 := blk_frozen b0 2
  rw [← hw1]
  clear hw1
  have HBL := Aside0.mk hbel
  have HB0 := Aside0.mk b0
  have c1 := pw_cell_below hbel HC1.out
  have c2 := pw_cell_below hbel H.out.c2
  have hmp : IsMapF Try.prog 3 w1.drew pb (keysM ms) (plF ms) := (H.out.map.step (hbel.block _ H.out.map.lt)).step rfl
  have r2 := hmp.run_look Try.underlying63 Try.underlying3 zero3 HN2.out
  rw [if_pos (by rw [← hasM_mem]; exact HB.out)] at r2
  unfold plF at r2
  obtain ⟨ad, rfl, x0, x1, x2⟩ := at_T49 (Kd.C_below HC.out hbel) (p : Int) (by omega) (by omega)
  rw [← HM.out] at x0 x1 x2
  rw [← HP.out, ← HNL.out] at r2
  rw [Int.toNat_natCast] at x0 x1 x2
  simp only at x0 x1 x2
  clear hmp hbel b0
  go_region
  all_goals
    obtain ⟨w2, hw2⟩ : ∃ w2, w2 = (((w1.setCell ⟨w.heap.size, 0, none⟩ (.int .i64 a)).setCell ⟨w.heap.size, 1, none⟩ (.int .i64 b)).setCell ⟨w.heap.size, 2, none⟩ (.int .i64 c)).drew := ⟨_, rfl⟩
    have hb2 : Below w.heap.size w w2 := by
      rw [hw2]
      exact below_drew1 (below_set (below_set (below_set HBL.out (Nat.le_refl _)) (Nat.le_refl _)) (Nat.le_refl _))
    have g0 : w2.heap[w.heap.size]? = some (.cells #[.int .i64 a, .int .i64 b, .int .i64 c] 49 (0, 0)) := by
      rw [hw2]
      exact blk_set (blk_set (blk_set HB0.out 0 (.int .i64 a)) 1 (.int .i64 b)) 2 (.int .i64 c)
    rw [← hw2]
    have k0 := blk_cell g0 0
    have k1 := blk_cell g0 1
    have k2 := blk_cell g0 2
    clear hw2 d0 d1 d2 e0 e1 e2 x0 x1 x2 r2 c1 c2 hn1
    go_wp2
    refine bodyPost_ret (v := .agg #[.int .i64 a, .int .i64 b, .int .i64 c]) (by simp [results, Try.results57, go_sem, k0, k1, k2]) rfl ⟨rfl, hb2⟩
end Go.Proofs.Ytboalbiicmcljaa.PAN
