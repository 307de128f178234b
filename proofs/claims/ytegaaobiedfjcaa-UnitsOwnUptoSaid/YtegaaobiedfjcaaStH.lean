import Derived.Test.YtegaaobiedfjcaaStF
import Derived.Deep.RegionWith
import Derived.Test.YtegaaobiedfjcaaPUx5
namespace Go.Proofs.Ytegaaobiedfjcaa.PU
open Go.RowKit Go.Proofs.YtegaaobiedfjcaaW.PrintWords Go.Proofs.YtegaaobiedfjcaaW.PrintLast Go.Proofs.YtegaaobiedfjcaaW.PrintMore Go.Proofs.YtegaaobiedfjcaaH
set_option linter.unusedVariables false
set_option linter.unusedSimpArgs false
/-! ### Value, forces, Force -/
set_option maxHeartbeats 2000000 in
theorem st_Value (ok : Nat → Prop) (g : Nat) (vals : List Int) (cls : List (List Int × Int × Int)) (marks : List S48) (a : Int) (w : World) (h : St w ok g vals cls marks) (hv : Vals vals) (h1 : 1 ≤ a) (h2 : a < (vals.length : Int)) :
    Calls Try.prog 26 #[.pointer (some ⟨g, 0, none⟩), .int .i64 a] w fun e w' => e = .returned (.tuple #[.int .i64 (rd vals a), .int .i64 0]) ∧ Drawn0 w w' := by
  have H := Aside0.mk h
  obtain ⟨vv, vc, vm, hp⟩ := h
  obtain ⟨A, c, rfl, hl, hC⟩ := Kd.R_reads hp.rv
  have C0 := Aside0.mk hp.c0
  have c1 := hp.c1
  obtain ⟨ad, rfl, hx⟩ := Kd.at_int hC a (by omega) (by omega)
  obtain ⟨x, hxe⟩ : ∃ x, x = rd vals a := ⟨_, rfl⟩
  rw [← hxe] at hx ⊢
  obtain ⟨n, hn⟩ : ∃ n : Int, n = (vals.length : Int) - 1 := ⟨_, rfl⟩
  have HN := Aside0.mk hn
  have d1 : decide (a < 1) = false := decide_eq_false (by omega)
  have d2 : decide (n < a) = false := decide_eq_false (by omega)
  have hq1 : 0 ≤ a := by omega
  clear hC hp hxe hn hv
  go_enter Try.func26, Try.ntmps26
  go_wp2_with (first | (go_at_call 35; refine (st_is g _ C0.out).mono ?_; rintro e w' ⟨rfl, rfl⟩) | (go_at_call 13; refine (st_Atoms ok g vals cls marks _ H.out).mono ?_; rw [← HN.out]; rintro e w' ⟨rfl, rfl⟩))
  go_ret2
  exact ⟨rfl, by repeat (first | exact Drawn0.refl _ | apply Drawn0.step)⟩
set_option maxHeartbeats 2000000 in
theorem st_Value_bad (ok : Nat → Prop) (g : Nat) (vals : List Int) (cls : List (List Int × Int × Int)) (marks : List S48) (a : Int) (w : World) (h : St w ok g vals cls marks) (hb : a < 1 ∨ (vals.length : Int) ≤ a) :
    Calls Try.prog 26 #[.pointer (some ⟨g, 0, none⟩), .int .i64 a] w fun e w' => e = .returned (.tuple #[.int .i64 0, .int .i64 61]) ∧ w = w' := by
  have H := Aside0.mk h
  have C0 : Aside0 (w.cell? ⟨g, 0, none⟩ = some (.bool true)) := ⟨by obtain ⟨_, _, _, hp⟩ := h; exact hp.c0⟩
  obtain ⟨n, hn⟩ : ∃ n : Int, n = (vals.length : Int) - 1 := ⟨_, rfl⟩
  have HN := Aside0.mk hn
  have hb' : a < 1 ∨ n < a := by omega
  clear hn hb h
  by_cases h1 : a < 1
  · have d1 : decide (a < 1) = true := decide_eq_true h1
    clear hb' h1
    go_enter Try.func26, Try.ntmps26
    go_wp2_with (first | (go_at_call 35; refine (st_is g _ C0.out).mono ?_; rintro e w' ⟨rfl, rfl⟩) | (go_at_call 13; refine (st_Atoms ok g vals cls marks _ H.out).mono ?_; rw [← HN.out]; rintro e w' ⟨rfl, rfl⟩))
    go_ret2
    exact ⟨rfl, rfl⟩
  · have d1 : decide (a < 1) = false := decide_eq_false h1
    have d2 : decide (n < a) = true := decide_eq_true (hb'.resolve_left h1)
    clear hb' h1
    go_enter Try.func26, Try.ntmps26
    go_wp2_with (first | (go_at_call 35; refine (st_is g _ C0.out).mono ?_; rintro e w' ⟨rfl, rfl⟩) | (go_at_call 13; refine (st_Atoms ok g vals cls marks _ H.out).mono ?_; rw [← HN.out]; rintro e w' ⟨rfl, rfl⟩))
    go_ret2
    exact ⟨rfl, rfl⟩
/-- Does a clause force a literal, under values? -/
def othersF (vals : List Int) (c : List Int) (l : Int) : Bool := c.all (fun x => decide (x = l) || decide (valL vals x < 0))
def forcesV (vals : List Int) (c : List Int) (l : Int) : Bool := (decide (l ∈ c) && othersF vals c l) && decide (valL vals l = 0)
theorem othersF_take {vals : List Int} {c : List Int} {l : Int} {i : Nat} (h : i < c.length) : othersF vals (c.take (i + 1)) l = (othersF vals (c.take i) l && (decide (rd c (i : Int) = l) || decide (valL vals (rd c (i : Int)) < 0))) := by
  rw [take_rd h]; simp [othersF]
theorem mem_take_rd {c : List Int} {l : Int} {i : Nat} (h : i < c.length) : decide (l ∈ c.take (i + 1)) = (decide (l ∈ c.take i) || decide (rd c (i : Int) = l)) := by
  rw [take_rd h]; simp [eq_comm]
theorem othersF_false {vals : List Int} {c : List Int} {l : Int} {i : Nat} (h : i < c.length) (h1 : rd c (i : Int) ≠ l) (h2 : ¬ valL vals (rd c (i : Int)) < 0) : othersF vals c l = false := by
  unfold othersF
  rw [List.all_eq_false]
  exact ⟨_, rd_mem' h, by simp [h1, h2]⟩
set_option maxHeartbeats 8000000 in
set_option maxRecDepth 100000 in
theorem st_forces (ok : Nat → Prop) (g : Nat) (vals : List Int) (cls : List (List Int × Int × Int)) (marks : List S48) (i : Nat) (c : List Int) (p1 p2 : Int) (l : Int) (w : World) (h : St w ok g vals cls marks) (hv : Vals vals) (hi : cls[i]? = some (c, p1, p2)) (hc : ∀ x ∈ c, -(vals.length : Int) < x ∧ x < (vals.length : Int)) (h1 : -(vals.length : Int) < l) (h2 : l < (vals.length : Int)) (hcap : cls.length ≤ 1048576) (hcl : c.length ≤ 4194304) :
    Calls Try.prog 49 #[.pointer (some ⟨g, 0, none⟩), .int .i64 (i : Int), .int .i64 l] w fun e w' => e = .returned (.bool (forcesV vals c l)) ∧ Drawn0 w w' := by
  have H := Aside0.mk h
  have HV := Aside0.mk hv
  have HCR := Aside0.mk hc
  have HLR := Aside0.mk (And.intro h1 h2)
  have hit : i < cls.length := (List.getElem?_eq_some_iff.1 hi).1
  obtain ⟨vv, vc, vm, hp⟩ := h
  obtain ⟨gc, cc, rfl⟩ := hp.hdr (by omega)
  have c2 := hp.c2
  obtain ⟨⟨A, k, x0, hC⟩, _, _, hfr, _, _, _⟩ := hp.putw hit hi
  have HC := Aside0.mk hC
  have hci0 : (0 : Int) ≤ (i : Int) := by omega
  have hci1 : (i : Int) < (cls.length : Int) := by omega
  obtain ⟨r, hr⟩ : ∃ r, r = forcesV vals c l := ⟨_, rfl⟩
  rw [← hr]
  have HR := Aside0.mk hr
  clear hv hc h1 h2 hC hp hfr hi hr
  go_enter Try.func49, Try.ntmps49
  go_wp2
  go_loopg [7, 9, 19] c.length (fun kq v7 v9 v19 w' => ∃ (j : Nat) (b : Bool), v7 = .bool b ∧ v19 = .int .i64 (j : Int) ∧ Aside0 (j + kq = c.length ∧ b = decide (l ∈ c.take j) ∧ othersF vals (c.take j) l = true) ∧ Drawn0 w w')
  case atStart => exact ⟨0, false, rfl, rfl, ⟨by omega, rfl, rfl⟩, by repeat (first | exact Drawn0.refl _ | apply Drawn0.step)⟩
  case round =>
    obtain ⟨j, b, rfl, rfl, HJ, ⟨m, rfl⟩⟩ := hrel
    have HS := Aside0.mk (H.out.below (pw_below_drewN (Below.refl w.heap.size w) m))
    cases gk with
    | succ k1 =>
      have hlt : j < c.length := by have := HJ.out.1; omega
      obtain ⟨ad, rfl, hx⟩ := Kd.at_int HC.out (j : Int) (by omega) (by omega)
      rw [Int.toNat_natCast] at hx
      have HM := Aside0.mk (mem_take_rd (l := l) hlt)
      have HO := Aside0.mk (othersF_take (vals := vals) (l := l) hlt)
      have HXR := Aside0.mk (HCR.out _ (rd_mem' hlt))
      have HOF := Aside0.mk (othersF_false (vals := vals) (l := l) hlt)
      obtain ⟨x, hxe⟩ : ∃ x, x = rd c (j : Int) := ⟨_, rfl⟩
      rw [← hxe] at hx HM HO HXR HOF
      have hq : j + 1 ≤ 4194304 := by omega
      clear hxe
      by_cases hxl : x = l
      · have dx : (x == l) = true := by rw [beq_iff_eq]; exact hxl
        have dx' : (x != l) = false := by rw [bne_eq_false_iff_eq]; exact hxl
        have HXL := Aside0.mk hxl
        clear hxl
        cases b
        all_goals
          go_wp2
          go_roundg k1
          case measure => omega
          case rel => exact ⟨j + 1, true, rfl, by go_num, ⟨by have := HJ.out.1; omega, by rw [HM.out, HXL.out]; simp, by rw [HO.out, HJ.out.2.2, HXL.out]; simp⟩, by repeat (first | exact Drawn0.refl _ | apply Drawn0.step)⟩
      · have dx : (x == l) = false := by rw [beq_eq_false_iff_ne]; exact hxl
        have dx' : (x != l) = true := by rw [bne_iff_ne]; exact hxl
        have HXL := Aside0.mk hxl
        clear hxl
        obtain ⟨v, hve⟩ : ∃ v, v = valL vals x := ⟨_, rfl⟩
        have HVE := Aside0.mk hve
        rw [← hve] at HO HOF
        by_cases hv0 : 0 ≤ v
        · have dv : decide (0 ≤ v) = true := decide_eq_true hv0
          obtain rfl : r = false := by rw [HR.out]; unfold forcesV; rw [HOF.out HXL.out (by omega)]; simp
          clear hve hv0
          cases b
          all_goals
            go_wp2_with (first | (go_at_call 48; refine (st_value ok g vals cls marks x _ HS.out HV.out HXR.out.1 HXR.out.2).mono ?_; rw [← HVE.out]; rintro e w' ⟨rfl, rfl⟩))
            go_ret
            exact ⟨rfl, by repeat (first | exact Drawn0.refl _ | apply Drawn0.step)⟩
        · have dv : decide (0 ≤ v) = false := decide_eq_false hv0
          have HV0 := Aside0.mk hv0
          clear hve hv0
          cases b
          all_goals
            go_wp2_with (first | (go_at_call 48; refine (st_value ok g vals cls marks x _ HS.out HV.out HXR.out.1 HXR.out.2).mono ?_; rw [← HVE.out]; rintro e w' ⟨rfl, rfl⟩))
            go_roundg k1
            case measure => omega
            case rel => exact ⟨j + 1, _, rfl, by go_num, ⟨by have := HJ.out.1; omega, by rw [HM.out, ← HJ.out.2.1]; simp [HXL.out], by rw [HO.out, HJ.out.2.2, decide_eq_true (show v < 0 by have := HV0.out; omega)]; simp⟩, by repeat (first | exact Drawn0.refl _ | apply Drawn0.step)⟩
    | zero =>
      obtain rfl : j = c.length := by have := HJ.out.1; omega
      have hj := HJ.out.2
      rw [List.take_length] at hj
      have HF : Aside0 (r = (b && decide (valL vals l = 0))) := ⟨by rw [HR.out]; unfold forcesV; rw [hj.2, hj.1]; simp⟩
      obtain ⟨v, hve⟩ : ∃ v, v = valL vals l := ⟨_, rfl⟩
      have HVE := Aside0.mk hve
      rw [← hve] at HF
      clear hj hve
      cases b with
      | false =>
        obtain rfl : r = false := by rw [HF.out]; rfl
        go_wp2
        go_ret
        exact ⟨rfl, by repeat (first | exact Drawn0.refl _ | apply Drawn0.step)⟩
      | true =>
        by_cases hv0 : v = 0
        · have dv : (v == 0) = true := by rw [beq_iff_eq]; exact hv0
          obtain rfl : r = true := by rw [HF.out, decide_eq_true hv0]; rfl
          clear hv0
          go_wp2_with (first | (go_at_call 48; refine (st_value ok g vals cls marks l _ HS.out HV.out HLR.out.1 HLR.out.2).mono ?_; rw [← HVE.out]; rintro e w' ⟨rfl, rfl⟩))
          go_ret
          exact ⟨rfl, by repeat (first | exact Drawn0.refl _ | apply Drawn0.step)⟩
        · have dv : (v == 0) = false := by rw [beq_eq_false_iff_ne]; exact hv0
          obtain rfl : r = false := by rw [HF.out, decide_eq_false hv0]; rfl
          clear hv0
          go_wp2_with (first | (go_at_call 48; refine (st_value ok g vals cls marks l _ HS.out HV.out HLR.out.1 HLR.out.2).mono ?_; rw [← HVE.out]; rintro e w' ⟨rfl, rfl⟩))
          go_ret
          exact ⟨rfl, by repeat (first | exact Drawn0.refl _ | apply Drawn0.step)⟩

structure FOk (vals : List Int) (cls : List (List Int × Int × Int)) (marks : List S48) : Prop where
  fit : Fit vals cls marks
  cl : ∀ x ∈ cls, x.1.length ≤ 4194304
  lv : 0 ≤ lvl marks ∧ lvl marks ≤ 4194304
theorem FOk.ml {vals : List Int} {cls : List (List Int × Int × Int)} {marks : List S48} (h : FOk vals cls marks) : marks.length ≤ 4194304 := by
  have h1 := h.fit.sum
  have h2 := h.fit.v.max
  omega
theorem litsOk_rng {vals : List Int} {c : List Int} (h : litsOk vals c = true) : ∀ x ∈ c, x ≠ 0 ∧ -(vals.length : Int) < x ∧ x < (vals.length : Int) := by
  intro x hx
  unfold litsOk at h
  simp only [Bool.not_eq_true', List.any_eq_false] at h
  have h2 := litB_iff.1 (by simpa using h x hx)
  omega
set_option maxHeartbeats 4000000 in
theorem st_Force_arg (ok : Nat → Prop) (g : Nat) (vals : List Int) (cls : List (List Int × Int × Int)) (marks : List S48) (l n : Int) (w : World) (h : St w ok g vals cls marks) (hf : FOk vals cls marks) (hb : litB ((vals.length : Int) - 1) l = false) :
    Calls Try.prog 28 #[.pointer (some ⟨g, 0, none⟩), .int .i64 l, .int .i64 n] w fun e w' => e = .returned (.int .i64 1) ∧ w = w' := by
  have H := Aside0.mk h
  have HF := Aside0.mk hf
  have HB := Aside0.mk hb
  have C0 : Aside0 (w.cell? ⟨g, 0, none⟩ = some (.bool true)) := ⟨by obtain ⟨_, _, _, hp⟩ := h; exact hp.c0⟩
  clear h hf hb
  go_enter Try.func28, Try.ntmps28
  go_wp2_with (first | (go_at_call 35; refine (st_is g _ C0.out).mono ?_; rintro e w' ⟨rfl, rfl⟩) | (go_at_call 47; refine (st_literal ok g vals cls marks l _ H.out HF.out.fit.v).mono ?_; rw [HB.out]; rintro e w' ⟨rfl, rfl⟩))
  go_ret
  exact ⟨rfl, rfl⟩
set_option maxHeartbeats 4000000 in
theorem st_Force_clause (ok : Nat → Prop) (g : Nat) (vals : List Int) (cls : List (List Int × Int × Int)) (marks : List S48) (l n : Int) (w : World) (h : St w ok g vals cls marks) (hf : FOk vals cls marks) (hb : litB ((vals.length : Int) - 1) l = true) (hn : n < 0 ∨ (cls.length : Int) ≤ n) :
    Calls Try.prog 28 #[.pointer (some ⟨g, 0, none⟩), .int .i64 l, .int .i64 n] w fun e w' => e = .returned (.int .i64 180) ∧ Drawn0 w w' := by
  have H := Aside0.mk h
  have HF := Aside0.mk hf
  have HB := Aside0.mk hb
  have C0 : Aside0 (w.cell? ⟨g, 0, none⟩ = some (.bool true)) := ⟨by obtain ⟨_, _, _, hp⟩ := h; exact hp.c0⟩
  obtain ⟨vv, vc, vm, hp⟩ := h
  obtain ⟨Ac, cc, rfl⟩ := Kd.R_slice hp.rc
  have c2 := hp.c2
  have hcap := hf.fit.cap
  clear hp hf hb
  by_cases h1 : n < 0
  · have d1 : decide (n < 0) = true := decide_eq_true h1
    clear hn h1
    go_enter Try.func28, Try.ntmps28
    go_wp2_with (first | (go_at_call 35; refine (st_is g _ C0.out).mono ?_; rintro e w' ⟨rfl, rfl⟩) | (go_at_call 47; refine (st_literal ok g vals cls marks l _ H.out HF.out.fit.v).mono ?_; rw [HB.out]; rintro e w' ⟨rfl, rfl⟩))
    go_ret
    exact ⟨rfl, by repeat (first | exact Drawn0.refl _ | apply Drawn0.step)⟩
  · have d1 : decide (n < 0) = false := decide_eq_false h1
    have d2 : decide ((cls.length : Int) ≤ n) = true := decide_eq_true (hn.resolve_left h1)
    clear hn h1
    go_enter Try.func28, Try.ntmps28
    go_wp2_with (first | (go_at_call 35; refine (st_is g _ C0.out).mono ?_; rintro e w' ⟨rfl, rfl⟩) | (go_at_call 47; refine (st_literal ok g vals cls marks l _ H.out HF.out.fit.v).mono ?_; rw [HB.out]; rintro e w' ⟨rfl, rfl⟩))
    go_ret
    exact ⟨rfl, by repeat (first | exact Drawn0.refl _ | apply Drawn0.step)⟩
set_option maxHeartbeats 4000000 in
theorem st_Force_trail (ok : Nat → Prop) (g : Nat) (vals : List Int) (cls : List (List Int × Int × Int)) (marks : List S48) (l : Int) (i : Nat) (c : List Int) (p1 p2 : Int) (w : World) (h : St w ok g vals cls marks) (hf : FOk vals cls marks) (hb : litB ((vals.length : Int) - 1) l = true) (hi : cls[i]? = some (c, p1, p2)) (hn : forcesV vals c l = false) :
    Calls Try.prog 28 #[.pointer (some ⟨g, 0, none⟩), .int .i64 l, .int .i64 (i : Int)] w fun e w' => e = .returned (.int .i64 200) ∧ Drawn0 w w' := by
  have H := Aside0.mk h
  have HF := Aside0.mk hf
  have HB := Aside0.mk hb
  have HI := Aside0.mk hi
  have HN := Aside0.mk hn
  have C0 : Aside0 (w.cell? ⟨g, 0, none⟩ = some (.bool true)) := ⟨by obtain ⟨_, _, _, hp⟩ := h; exact hp.c0⟩
  have HR : Aside0 (-(vals.length : Int) < l ∧ l < (vals.length : Int)) := ⟨by have := litB_iff.1 hb; omega⟩
  have hit : i < cls.length := (List.getElem?_eq_some_iff.1 hi).1
  have HCR : Aside0 (∀ x ∈ c, -(vals.length : Int) < x ∧ x < (vals.length : Int)) := ⟨fun x hx => (litsOk_rng (hf.fit.lit _ (List.mem_of_getElem? hi)) x hx).2⟩
  obtain ⟨vv, vc, vm, hp⟩ := h
  obtain ⟨Ac, cc, rfl⟩ := Kd.R_slice hp.rc
  have c2 := hp.c2
  have hcap := hf.fit.cap
  have d1 : decide ((i : Int) < 0) = false := decide_eq_false (by omega)
  have d2 : decide ((cls.length : Int) ≤ (i : Int)) = false := decide_eq_false (by omega)
  have d2' : decide (cls.length ≤ i) = false := decide_eq_false (by omega)
  clear hp hf hb hi hn
  go_enter Try.func28, Try.ntmps28
  go_wp2_with (first | (go_at_call 35; refine (st_is g _ C0.out).mono ?_; rintro e w' ⟨rfl, rfl⟩) | (go_at_call 47; refine (st_literal ok g vals cls marks l _ H.out HF.out.fit.v).mono ?_; rw [HB.out]; rintro e w' ⟨rfl, rfl⟩) | (go_at_call 49; refine (st_forces ok g vals cls marks i c p1 p2 l _ (H.out.below (by repeat (first | exact Below.refl _ _ | apply pw_below_drewN | apply below_drew1))) HF.out.fit.v HI.out HCR.out HR.out.1 HR.out.2 HF.out.fit.cap (HF.out.cl _ (List.mem_of_getElem? HI.out))).mono ?_; rw [HN.out]; rintro e w' ⟨rfl, ⟨nd, rfl⟩⟩))
  go_ret
  exact ⟨rfl, by repeat (first | exact Drawn0.refl _ | apply Drawn0.step)⟩
set_option maxHeartbeats 4000000 in
theorem st_Force (ok : Nat → Prop) (g : Nat) (vals : List Int) (cls : List (List Int × Int × Int)) (marks : List S48) (l : Int) (i : Nat) (c : List Int) (p1 p2 : Int) (w : World) (h : St w ok g vals cls marks) (hf : FOk vals cls marks) (hb : litB ((vals.length : Int) - 1) l = true) (hi : cls[i]? = some (c, p1, p2)) (hn : forcesV vals c l = true) :
    Calls Try.prog 28 #[.pointer (some ⟨g, 0, none⟩), .int .i64 l, .int .i64 (i : Int)] w fun e w' => e = .returned (.int .i64 0) ∧ St w' (fun k => ok k ∨ w.heap.size ≤ k) g (markV vals l) cls (marks ++ [⟨l, lvl marks, (i : Int)⟩]) ∧ Rest w w' ok := by
  have H := Aside0.mk h
  have HF := Aside0.mk hf
  have HB := Aside0.mk hb
  have HI := Aside0.mk hi
  have HN := Aside0.mk hn
  have C0 : Aside0 (w.cell? ⟨g, 0, none⟩ = some (.bool true)) := ⟨by obtain ⟨_, _, _, hp⟩ := h; exact hp.c0⟩
  have HR : Aside0 (-(vals.length : Int) < l ∧ l < (vals.length : Int)) := ⟨by have := litB_iff.1 hb; omega⟩
  have hit : i < cls.length := (List.getElem?_eq_some_iff.1 hi).1
  have HCR : Aside0 (∀ x ∈ c, -(vals.length : Int) < x ∧ x < (vals.length : Int)) := ⟨fun x hx => (litsOk_rng (hf.fit.lit _ (List.mem_of_getElem? hi)) x hx).2⟩
  obtain ⟨vv, vc, vm, hp⟩ := h
  obtain ⟨Ac, cc, rfl⟩ := Kd.R_slice hp.rc
  have c2 := hp.c2
  have hcap := hf.fit.cap
  have d1 : decide ((i : Int) < 0) = false := decide_eq_false (by omega)
  have d2 : decide ((cls.length : Int) ≤ (i : Int)) = false := decide_eq_false (by omega)
  have d2' : decide (cls.length ≤ i) = false := decide_eq_false (by omega)
  obtain ⟨y, hy⟩ : ∃ y, y = lvl marks := ⟨_, rfl⟩
  rw [← hy]
  have HY := Aside0.mk hy
  clear hp hf hb hi hn hy
  go_enter Try.func28, Try.ntmps28
  go_wp2_with (first | (go_at_call 35; refine (st_is g _ C0.out).mono ?_; rintro e w' ⟨rfl, rfl⟩) | (go_at_call 47; refine (st_literal ok g vals cls marks l _ H.out HF.out.fit.v).mono ?_; rw [HB.out]; rintro e w' ⟨rfl, rfl⟩) | (go_at_call 49; refine (st_forces ok g vals cls marks i c p1 p2 l _ (H.out.below (by repeat (first | exact Below.refl _ _ | apply pw_below_drewN | apply below_drew1))) HF.out.fit.v HI.out HCR.out HR.out.1 HR.out.2 HF.out.fit.cap (HF.out.cl _ (List.mem_of_getElem? HI.out))).mono ?_; rw [HN.out]; rintro e w' ⟨rfl, ⟨nd, rfl⟩⟩) | (go_at_call 14; refine (st_Level ok g vals cls marks _ (H.out.below (by repeat (first | exact Below.refl _ _ | apply pw_below_drewN | apply below_drew1)))).mono ?_; rw [← HY.out]; rintro e w2 ⟨rfl, hd2⟩; have HD2 := Aside0.mk hd2.below; clear hd2) | (go_at_call 37; refine (st_mark ok g vals cls marks ⟨l, y, (i : Int)⟩ _ ((H.out.below (by repeat (first | exact Below.refl _ _ | apply pw_below_drewN | apply below_drew1))).below HD2.out) HR.out.1 HR.out.2 HF.out.ml HF.out.fit.v.max).mono ?_; rintro e w3 ⟨rfl, hs, hr⟩; have HS := Aside0.mk hs; have HRR := Aside0.mk hr; clear hs hr))
  go_ret
  have hsz := HD2.out.size
  exact ⟨rfl, HS.out.mono (fun k hk => hk.imp id (fun q => Nat.le_trans (Nat.le_trans (by first | exact Nat.le_refl _ | simp) hsz) q)), (Rest.of_below (below_step (by repeat (first | exact Below.refl _ _ | apply pw_below_drewN | apply below_drew1)) HD2.out) ok).trans HRR.out (fun _ _ h => h)⟩

/-! ### Back -/
attribute [local go_sem] max2_int min2_int max_two min_two
def absL (l : Int) : Int := if l < 0 then -l else l
theorem max_abs (l : Int) : (if l < -l then -l else l) = absL l := by unfold absL; split <;> split <;> omega
def popU (s : List Int × List S48) : List Int × List S48 := (s.1.set (absL (rd_T48 s.2 ((s.2.length : Int) - 1)).f0).toNat 0, s.2.take (s.2.length - 1))
def backF (level : Int) : Nat → List Int × List S48 → List Int × List S48
  | 0, s => s
  | k + 1, s => if level < lvl s.2 then backF level k (popU s) else s
set_option maxHeartbeats 4000000 in
theorem st_Back_bad (ok : Nat → Prop) (g : Nat) (vals : List Int) (cls : List (List Int × Int × Int)) (marks : List S48) (n : Int) (w : World) (h : St w ok g vals cls marks) (hn : n < 0 ∨ lvl marks < n) :
    Calls Try.prog 29 #[.pointer (some ⟨g, 0, none⟩), .int .i64 n] w fun e w' => e = .returned (.int .i64 80) ∧ Drawn0 w w' := by
  have H := Aside0.mk h
  have C0 : Aside0 (w.cell? ⟨g, 0, none⟩ = some (.bool true)) := ⟨by obtain ⟨_, _, _, hp⟩ := h; exact hp.c0⟩
  obtain ⟨y, hy⟩ : ∃ y, y = lvl marks := ⟨_, rfl⟩
  rw [← hy] at hn
  have HY := Aside0.mk hy
  clear h hy
  by_cases h1 : n < 0
  · have d1 : decide (n < 0) = true := decide_eq_true h1
    clear hn h1
    go_enter Try.func29, Try.ntmps29
    go_wp2_with (first | (go_at_call 35; refine (st_is g _ C0.out).mono ?_; rintro e w' ⟨rfl, rfl⟩))
    go_ret
    exact ⟨rfl, by repeat (first | exact Drawn0.refl _ | apply Drawn0.step)⟩
  · have d1 : decide (n < 0) = false := decide_eq_false h1
    have d2 : decide (y < n) = true := decide_eq_true (hn.resolve_left h1)
    clear hn h1
    go_enter Try.func29, Try.ntmps29
    go_wp2_with (first | (go_at_call 35; refine (st_is g _ C0.out).mono ?_; rintro e w' ⟨rfl, rfl⟩) | (go_at_call 14; refine (st_Level ok g vals cls marks _ H.out).mono ?_; rw [← HY.out]; rintro e w' ⟨rfl, ⟨nd, rfl⟩⟩))
    go_ret
    exact ⟨rfl, by repeat (first | exact Drawn0.refl _ | apply Drawn0.step)⟩
theorem addr_add0 (b n : Nat) : (⟨b, 0, none⟩ : Addr).add n = ⟨b, n, none⟩ := by
  unfold Addr.add
  split <;> simp_all
/-- The last mark goes. -/
theorem Parts.popm {w : World} {ok : Nat → Prop} {g cm : Nat} {Am : Option Addr} {vv vc : Value} {vals : List Int} {cls : List (List Int × Int × Int)} {marks : List S48} (h : Parts w ok g vv vc (.slice Am marks.length cm) vals cls marks) (m : Nat) (hm : m ≤ marks.length) :
    Parts (w.setCell ⟨g, 3, none⟩ (.slice Am m cm)) ok g vv vc (.slice Am m cm) vals cls (marks.take m) :=
  h.put3 (w1 := w) (fun _ q => q) (Kd.R_take h.rm hm) ⟨rfl, rfl, rfl, Nat.le_refl _, fun _ _ _ => rfl⟩
set_option maxHeartbeats 8000000 in
set_option maxRecDepth 100000 in
theorem st_Back (ok : Nat → Prop) (g : Nat) (vals : List Int) (cls : List (List Int × Int × Int)) (marks : List S48) (n : Int) (w : World) (h : St w ok g vals cls marks) (hv : vals.length ≤ 262145) (hm : marks.length ≤ 4194304) (hr : ∀ m ∈ marks, -(vals.length : Int) < m.f0 ∧ m.f0 < (vals.length : Int)) (hn0 : 0 ≤ n) (hn1 : n ≤ lvl marks) :
    Calls Try.prog 29 #[.pointer (some ⟨g, 0, none⟩), .int .i64 n] w fun e w' => e = .returned (.int .i64 0) ∧ St w' ok g (backF n marks.length (vals, marks)).1 cls (backF n marks.length (vals, marks)).2 ∧ Rest w w' ok := by
  have H := Aside0.mk h
  have C0 : Aside0 (w.cell? ⟨g, 0, none⟩ = some (.bool true)) := ⟨by obtain ⟨_, _, _, hp⟩ := h; exact hp.c0⟩
  obtain ⟨y, hy⟩ : ∃ y, y = lvl marks := ⟨_, rfl⟩
  have d1 : decide (n < 0) = false := decide_eq_false (by omega)
  have d2 : decide (y < n) = false := decide_eq_false (by omega)
  have HY := Aside0.mk hy
  have HR := Aside0.mk hr
  have HM := Aside0.mk (And.intro hm hv)
  obtain ⟨fin, hfin⟩ : ∃ fin, fin = backF n marks.length (vals, marks) := ⟨_, rfl⟩
  rw [← hfin]
  have HFIN := Aside0.mk hfin
  clear h hy hr hn1 hm hv hfin
  go_enter Try.func29, Try.ntmps29
  go_wp2_with (first | (go_at_call 35; refine (st_is g _ C0.out).mono ?_; rintro e w' ⟨rfl, rfl⟩) | (go_at_call 14; refine (st_Level ok g vals cls marks _ H.out).mono ?_; rw [← HY.out]; rintro e w' ⟨rfl, ⟨nd, rfl⟩⟩))
  go_loopg [5, 6] marks.length (fun kq v5 v6 w' => ∃ (vals' : List Int) (marks' : List S48), Aside0 (marks'.length = kq ∧ kq ≤ marks.length ∧ vals'.length = vals.length ∧ (∀ m ∈ marks', -(vals.length : Int) < m.f0 ∧ m.f0 < (vals.length : Int)) ∧ fin = backF n kq (vals', marks')) ∧ Aside0 (St w' ok g vals' cls marks' ∧ Rest w w' ok))
  case atStart => exact ⟨vals, marks, ⟨rfl, Nat.le_refl _, rfl, HR.out, HFIN.out⟩, ⟨H.out.below (by repeat (first | exact Below.refl _ _ | apply pw_below_drewN | apply below_drew1)), Rest.of_below (by repeat (first | exact Below.refl _ _ | apply pw_below_drewN | apply below_drew1)) ok⟩⟩
  case round =>
    obtain ⟨vals', marks', HJ, HS⟩ := hrel
    clear C0
    obtain ⟨y', hy'⟩ : ∃ y, y = lvl marks' := ⟨_, rfl⟩
    have HY' := Aside0.mk hy'
    by_cases hlt : n < y'
    · have d3 : decide (n < y') = true := decide_eq_true hlt
      have hne : marks' ≠ [] := by
        intro e
        rw [hy', e] at hlt
        unfold lvl at hlt
        rw [if_pos rfl] at hlt
        omega
      have hp : 0 < marks'.length := List.length_pos_iff.2 hne
      have hlen := HJ.out.1
      have hml : marks'.length ≤ 4194304 := by have := HJ.out.2.1; have := HM.out.1; omega
      obtain ⟨k1, rfl⟩ : ∃ k1, gk = k1 + 1 := ⟨gk - 1, by omega⟩
      obtain ⟨vv, vc, vm, hq⟩ := HS.out.1
      obtain ⟨Am, cm, rfl⟩ := Kd.R_slice hq.rm
      have HQ := Aside0.mk hq
      obtain ⟨gm, cm', e1, _, hgm, _⟩ := Kd.R_form hq.rm hp
      injection e1 with e1 e2 e3
      subst e1 e3
      clear e2
      have hC := (Kd.R_reads' hq.rm).2.2
      obtain ⟨ad, e4, k0, k1', k2'⟩ := at_T48 hC ((marks'.length : Int) - 1) (by omega) (by omega)
      injection e4 with e4
      subst e4
      rw [show ((marks'.length : Int) - 1).toNat = marks'.length - 1 from by omega] at k0
      have hrl := HJ.out.2.2.2.1 _ (rdm_mem (l := marks') (i := marks'.length - 1) (by omega))
      rw [show ((marks'.length - 1 : Nat) : Int) = (marks'.length : Int) - 1 from by omega] at hrl
      obtain ⟨l, hl⟩ : ∃ l, l = (rd_T48 marks' ((marks'.length : Int) - 1)).f0 := ⟨_, rfl⟩
      rw [← hl] at k0 hrl
      rw [addr_add0] at k0
      have hlv : vals'.length = vals.length := HJ.out.2.2.1
      rw [← hlv] at hrl
      have hvl : vals'.length ≤ 262145 := by rw [hlv]; exact HM.out.2
      have hcm := (Kd.R_reads' hq.rm).2.1
      have hm1 : (1 : Int) ≤ (marks'.length : Int) := by omega
      have hm2 : (marks'.length : Int) - 1 ≤ (cm : Int) := by omega
      obtain ⟨Av, cv, rfl, _, _⟩ := Kd.R_reads hq.rv
      have hpos : 0 < vals'.length := by omega
      obtain ⟨gv, cv', e1, _, hgvs, _⟩ := Kd.R_form hq.rv hpos
      injection e1 with e1 e2 e3
      subst e1 e3
      have hgvg : gv ≠ g := (hq.rv.1 gv rfl).2
      have hgmg : gm ≠ g := (hq.rm.1 gm rfl).1.2
      have hok : ok gv := (hq.rv.1 gv rfl).1
      have hog := hq.og
      have hwl : IntKind.i64.wrap (-l) = -l := IntWalk.i64_in _ (by omega)
      have c1 := hq.c1
      have c3 := hq.c3
      have f3 := hq.f 3
      have hq1 : (0 : Int) ≤ (marks'.length : Int) - 1 := by omega
      have hq2 : (marks'.length : Int) - 1 < (marks'.length : Int) := by omega
      have hw : IntKind.i64.wrap ((marks'.length : Int) - 1) = (marks'.length : Int) - 1 := IntWalk.i64_in _ (by omega)
      have HHL := Aside0.mk hl
      have HLV := Aside0.mk hlv
      have HLEN := Aside0.mk hlen
      clear hC k1' k2' hl hy' hlv e2 hlen
      by_cases hneg : l < 0
      · have ha0 : 0 ≤ -l := by omega
        have ha1 : -l < (vals'.length : Int) := by omega
        have hle : ¬ -l ≤ l := by omega
        obtain ⟨hcell, hfro⟩ := Kd.R_celln 0 hq.rv (-l) ha0 ha1
        have HNEG := Aside0.mk hneg
        clear hq hneg
        go_wp2_with (first | (go_at_call 14; refine (st_Level ok g vals' cls marks' _ HS.out.1).mono ?_; rw [← HY'.out]; rintro e w' ⟨rfl, ⟨nd', rfl⟩⟩))
        go_roundg k1
        case measure => omega
        case rel =>
          have hpop : popU (vals', marks') = (vals'.set (-l).toNat 0, marks'.take (marks'.length - 1)) := by
            unfold popU
            dsimp only
            rw [← HHL.out]
            unfold absL
            rw [if_pos HNEG.out]
          refine ⟨vals'.set (-l).toNat 0, marks'.take (marks'.length - 1), ⟨?_, ?_, ?_, ?_, ?_⟩, ⟨?_, ?_⟩⟩
          · rw [List.length_take]; have := HLEN.out; omega
          · have := HJ.out.2.1; omega
          · rw [List.length_set]; exact HLV.out
          · exact fun m hm => HJ.out.2.2.2.1 m (List.mem_of_mem_take hm)
          · rw [HJ.out.2.2.2.2, backF, if_pos (by dsimp only; rw [← HY'.out]; exact of_decide_eq_true d3), hpop]
          · have := ((HQ.out.step (w1 := wr.drewN nd') (fun _ _ _ => rfl)).putv (-l) 0).popm (marks'.length - 1) (Nat.sub_le _ _)
            exact ⟨_, _, _, this⟩
          · exact Rest.set (p := ⟨g, 3, none⟩) (Rest.set (p := ⟨gv, (-l).toNat, none⟩) (HS.out.2.drewN nd') hok _) hog _
      · have ha0 : 0 ≤ l := by omega
        have ha1 : l < (vals'.length : Int) := by omega
        have hle : -l ≤ l := by omega
        obtain ⟨hcell, hfro⟩ := Kd.R_celln 0 hq.rv l ha0 ha1
        have HNEG := Aside0.mk hneg
        clear hq hneg
        go_wp2_with (first | (go_at_call 14; refine (st_Level ok g vals' cls marks' _ HS.out.1).mono ?_; rw [← HY'.out]; rintro e w' ⟨rfl, ⟨nd', rfl⟩⟩))
        go_roundg k1
        case measure => omega
        case rel =>
          have hpop : popU (vals', marks') = (vals'.set l.toNat 0, marks'.take (marks'.length - 1)) := by
            unfold popU
            dsimp only
            rw [← HHL.out]
            unfold absL
            rw [if_neg (by have := HNEG.out; omega)]
          refine ⟨vals'.set l.toNat 0, marks'.take (marks'.length - 1), ⟨?_, ?_, ?_, ?_, ?_⟩, ⟨?_, ?_⟩⟩
          · rw [List.length_take]; have := HLEN.out; omega
          · have := HJ.out.2.1; omega
          · rw [List.length_set]; exact HLV.out
          · exact fun m hm => HJ.out.2.2.2.1 m (List.mem_of_mem_take hm)
          · rw [HJ.out.2.2.2.2, backF, if_pos (by dsimp only; rw [← HY'.out]; exact of_decide_eq_true d3), hpop]
          · have := ((HQ.out.step (w1 := wr.drewN nd') (fun _ _ _ => rfl)).putv l 0).popm (marks'.length - 1) (Nat.sub_le _ _)
            exact ⟨_, _, _, this⟩
          · exact Rest.set (p := ⟨g, 3, none⟩) (Rest.set (p := ⟨gv, l.toNat, none⟩) (HS.out.2.drewN nd') hok _) hog _
    · have d3 : decide (n < y') = false := decide_eq_false hlt
      have HE : Aside0 (fin = (vals', marks')) := ⟨by
        rw [HJ.out.2.2.2.2]
        cases gk with
        | zero => rfl
        | succ k1 => rw [backF, if_neg (by dsimp only; rw [← hy']; exact hlt)]⟩
      clear hy' hlt
      go_wp2_with (first | (go_at_call 14; refine (st_Level ok g vals' cls marks' _ HS.out.1).mono ?_; rw [← HY'.out]; rintro e w' ⟨rfl, ⟨nd', rfl⟩⟩))
      go_ret
      refine ⟨rfl, ?_, HS.out.2.drewN nd'⟩
      rw [HE.out]
      exact HS.out.1.below (pw_below_drewN (Below.refl _ _) nd')

/-! ### the law's own tests, in plain words -/
theorem sameMarks_ev (a : List S48) (ha : a.length ≤ 4611686018427387904) : ∀ d i : Nat, i + d = a.length → Ev (fun k => fulcrumlaw20_sameMarks.l0 k a a (i : Int)) true := by
  intro d
  induction d with
  | zero =>
    intro i h
    refine Ev.step (f := fun _ => some true) (fun k => ?_) (Ev.now _)
    simp only [fulcrumlaw20_sameMarks.l0]; rw [if_neg (by omega)]
  | succ d ih =>
    intro i h
    have hlt : i < a.length := by omega
    refine Ev.step (f := fun k => fulcrumlaw20_sameMarks.l0 k a a ((i + 1 : Nat) : Int)) (fun k => ?_) (ih (i + 1) (by omega))
    simp only [fulcrumlaw20_sameMarks.l0]
    rw [if_pos (by omega), if_pos (by omega), if_pos (by omega), wrapI hlt ha]
    simp
theorem sameMarks_all (a : List S48) (ha : a.length ≤ 4611686018427387904) : Ev (fun k => fulcrumlaw20_sameMarks.f k a a) true := by
  refine Ev.congr (f := fun k => fulcrumlaw20_sameMarks.l0 k a a ((0 : Nat) : Int)) (fun k => ?_) (sameMarks_ev a ha a.length 0 (by omega))
  unfold fulcrumlaw20_sameMarks.f
  rw [if_pos rfl]; rfl
theorem sameClauses_ev (a : List (List Int)) (ha : a.length ≤ 4611686018427387904) (hc : ∀ c ∈ a, c.length ≤ 4611686018427387904) : ∀ d i : Nat, i + d = a.length → Ev (fun k => fulcrumlaw20_sameClauses.l0 k a a (i : Int)) true := by
  intro d
  induction d with
  | zero =>
    intro i h
    refine Ev.step (f := fun _ => some true) (fun k => ?_) (Ev.now _)
    simp only [fulcrumlaw20_sameClauses.l0]; rw [if_neg (by omega)]
  | succ d ih =>
    intro i h
    have hlt : i < a.length := by omega
    have hcl := hc _ (rdl_mem hlt)
    have inner : ∀ e j : Nat, j + e = (rd_L2 a (i : Int)).length → Ev (fun k => fulcrumlaw20_sameClauses.l1 k a a (i : Int) (j : Int)) true := by
      intro e
      induction e with
      | zero =>
        intro j hj
        refine Ev.step (f := fun k => fulcrumlaw20_sameClauses.l0 k a a ((i + 1 : Nat) : Int)) (fun k => ?_) (ih (i + 1) (by omega))
        simp only [fulcrumlaw20_sameClauses.l1]
        rw [if_pos (by omega), if_pos (by omega), if_neg (by omega), wrapI hlt ha]
      | succ e ihe =>
        intro j hj
        have hjl : j < (rd_L2 a (i : Int)).length := by omega
        refine Ev.step (f := fun k => fulcrumlaw20_sameClauses.l1 k a a (i : Int) ((j + 1 : Nat) : Int)) (fun k => ?_) (ihe (j + 1) (by omega))
        simp only [fulcrumlaw20_sameClauses.l1]
        rw [if_pos (by omega), if_pos (by omega), if_pos (by omega), if_pos (by omega), if_pos (by omega), if_pos (by omega), if_pos trivial, wrapI hjl hcl]
    refine Ev.step (f := fun k => fulcrumlaw20_sameClauses.l1 k a a (i : Int) ((0 : Nat) : Int)) (fun k => ?_) (inner (rd_L2 a (i : Int)).length 0 (by omega))
    simp only [fulcrumlaw20_sameClauses.l0]
    rw [if_pos (by omega), if_pos (by omega), if_pos (by omega), if_pos trivial]; rfl
theorem sameClauses_all (a : List (List Int)) (ha : a.length ≤ 4611686018427387904) (hc : ∀ c ∈ a, c.length ≤ 4611686018427387904) : Ev (fun k => fulcrumlaw20_sameClauses.f k a a) true := by
  refine Ev.congr (f := fun k => fulcrumlaw20_sameClauses.l0 k a a ((0 : Nat) : Int)) (fun k => ?_) (sameClauses_ev a ha hc a.length 0 (by omega))
  unfold fulcrumlaw20_sameClauses.f
  rw [if_pos rfl]; rfl
/-- What the store tells of an atom, and what the marks say of it. -/
theorem TInv.tells {N : Nat} {vals : List Int} {marks : List S48} (h : TInv N vals marks) (hv : Vals vals) {a : Int} (ha : 1 ≤ a) : (tB marks a = true ∧ rd vals a = 1 ∧ tB marks (-a) = false) ∨ (tB marks a = false ∧ tB marks (-a) = true ∧ rd vals a = -1) ∨ (tB marks a = false ∧ tB marks (-a) = false ∧ rd vals a = 0) := by
  have e1 : valL vals a = rd vals a := if_neg (by omega)
  have e2 : valL vals (-a) = -rd vals a := by rw [valL_neg vals (by omega), e1]
  have h1 := h.tv a (by omega)
  have h2 := h.tv (-a) (by omega)
  rw [e1, ← tB_iff] at h1
  rw [e2, ← tB_iff] at h2
  have h3 := hv.rd a
  cases t1 : tB marks a <;> cases t2 : tB marks (-a)
  · rw [t1] at h1; rw [t2] at h2
    refine .inr (.inr ⟨rfl, rfl, ?_⟩)
    have q1 : ¬ 0 < rd vals a := fun q => by cases h1.1 q
    have q2 : ¬ 0 < -rd vals a := fun q => by cases h2.1 q
    omega
  · rw [t2] at h2
    have := h2.2 rfl
    exact .inr (.inl ⟨rfl, rfl, by omega⟩)
  · rw [t1] at h1
    have := h1.2 rfl
    exact .inl ⟨rfl, by omega, rfl⟩
  · rw [t1] at h1; rw [t2] at h2
    have := h1.2 rfl
    have := h2.2 rfl
    omega

end Go.Proofs.Ytegaaobiedfjcaa.PU
