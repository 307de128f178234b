import Derived.Test.YtegaaobiedfjcaaSt3
import Derived.Deep.RegionWith
namespace Go.Proofs.Ytegaaobiedfjcaa.PU
open Go.RowKit Go.Proofs.YtegaaobiedfjcaaW.PrintWords Go.Proofs.YtegaaobiedfjcaaW.PrintLast Go.Proofs.YtegaaobiedfjcaaW.PrintMore Go.Proofs.YtegaaobiedfjcaaH
set_option linter.unusedVariables false
set_option linter.unusedSimpArgs false
theorem rd_drop' {l : List Int} {i : Nat} (h : i < l.length) : l.drop i = rd l (i : Int) :: l.drop (i + 1) := by
  rw [List.drop_eq_getElem_cons h]
  simp [rd, List.getD_eq_getElem?_getD, List.getElem?_eq_getElem h]
theorem rd_mem' {l : List Int} {i : Nat} (h : i < l.length) : rd l (i : Int) ∈ l := by
  simp [rd, List.getD_eq_getElem?_getD, List.getElem?_eq_getElem h]
theorem rd_memi {l : List Int} {i : Int} (h0 : 0 ≤ i) (h : i < (l.length : Int)) : rd l i ∈ l := by
  obtain ⟨n, rfl⟩ := Int.eq_ofNat_of_zero_le h0
  exact rd_mem' (by omega)
set_option maxHeartbeats 16000000 in
set_option maxRecDepth 100000 in
theorem st_look (ok : Nat → Prop) (g gc cc : Nat) (vv vm : Value) (vals : List Int) (cls : List (List Int × Int × Int)) (marks : List S48) (i : Nat) (c : List Int) (a b : Int) (w : World)
    (h : Parts w ok g vv (.slice (some ⟨gc, 0, none⟩) cls.length cc) vm vals cls marks) (hv : Vals vals) (hi : i < cls.length) (hc : cls[i]? = some (c, a, b)) (hl : litsOk vals c = true) (hat : okAt c a b) :
    Calls Try.prog 36 #[.pointer (some ⟨g, 0, none⟩), .pointer (some ⟨gc, i * 3, none⟩)] w fun e w' => e = .returned (.tuple #[.int .i64 (scanU vals c 0).1, .bool (scanU vals c 0).2]) ∧ (∃ a' b', okAt c a' b' ∧ Parts w' ok g vv (.slice (some ⟨gc, 0, none⟩) cls.length cc) vm vals (cls.set i (c, a', b')) marks) ∧ Rest w w' ok := by
  obtain ⟨⟨A, k, x0, hC⟩, x1, x2, hfr, hog, hput1, hput2⟩ := h.putw hi hc
  have hself : Parts w ok g vv (.slice (some ⟨gc, 0, none⟩) cls.length cc) vm vals (cls.set i (c, a, b)) marks := by
    have e : cls.set i (c, a, b) = cls := by
      apply List.ext_getElem?
      intro j
      by_cases hj : i = j
      · subst hj
        rw [List.getElem?_set_self hi, hc]
      · rw [List.getElem?_set_ne hj]
    rw [e]; exact h
  have HS : Aside0 (St w ok g vals cls marks) := ⟨⟨_, _, _, h⟩⟩
  have HV := Aside0.mk hv
  have HC := Aside0.mk hC
  have HSELF : Aside0 (∀ m, Parts (w.drewN m) ok g vv (.slice (some ⟨gc, 0, none⟩) cls.length cc) vm vals (cls.set i (c, a, b)) marks) := ⟨fun m => hself.step (w1 := w.drewN m) (fun _ _ _ => rfl)⟩
  have HP1 : Aside0 (∀ m a', Parts ((w.setCell ⟨gc, i * 3 + 1, none⟩ (.int .i64 a')).drewN m) ok g vv (.slice (some ⟨gc, 0, none⟩) cls.length cc) vm vals (cls.set i (c, a', b)) marks) := ⟨fun m a' => (hput1 a').step (w1 := (w.setCell ⟨gc, i * 3 + 1, none⟩ (.int .i64 a')).drewN m) (fun _ _ _ => rfl)⟩
  have HP2 : Aside0 (∀ m a' b', Parts (((w.setCell ⟨gc, i * 3 + 1, none⟩ (.int .i64 a')).setCell ⟨gc, i * 3 + 2, none⟩ (.int .i64 b')).drewN m) ok g vv (.slice (some ⟨gc, 0, none⟩) cls.length cc) vm vals (cls.set i (c, a', b')) marks) := ⟨fun m a' b' => (hput2 a' b').step (w1 := ((w.setCell ⟨gc, i * 3 + 1, none⟩ (.int .i64 a')).setCell ⟨gc, i * 3 + 2, none⟩ (.int .i64 b')).drewN m) (fun _ _ _ => rfl)⟩
  have HRS1 : Aside0 (∀ m u, Rest w ((w.setCell ⟨gc, i * 3 + 1, none⟩ u).drewN m) ok) := ⟨fun m u => ((Rest.refl _ _).set (p := ⟨gc, i * 3 + 1, none⟩) hog _).drewN m⟩
  have HRS2 : Aside0 (∀ m u u', Rest w (((w.setCell ⟨gc, i * 3 + 1, none⟩ u).setCell ⟨gc, i * 3 + 2, none⟩ u').drewN m) ok) := ⟨fun m u u' => (((Rest.refl _ _).set (p := ⟨gc, i * 3 + 1, none⟩) hog _).set (p := ⟨gc, i * 3 + 2, none⟩) hog _).drewN m⟩
  have HSD : Aside0 (∀ m, St (w.drewN m) ok g vals cls marks) := ⟨fun m => ⟨_, _, _, h.step (w1 := w.drewN m) (fun _ _ _ => rfl)⟩⟩
  have HOG := Aside0.mk hog
  have f1 := hfr 1
  have f2 := hfr 2
  have hcm := Kd.C_max hC
  have HLIT : Aside0 (∀ x ∈ c, litB ((vals.length : Int) - 1) x = true) := ⟨fun x hx => by
    unfold litsOk at hl
    simp only [Bool.not_eq_true', List.any_eq_false] at hl
    simpa using hl x hx⟩
  have HRNG : Aside0 (∀ x ∈ c, -(vals.length : Int) < x ∧ x < (vals.length : Int) ∧ x ≠ 0) := ⟨fun x hx => by have := litB_iff.1 (HLIT.out x hx); omega⟩
  have HAT := Aside0.mk hat
  clear h hv hl hat hput1 hput2 hself hfr hog hC hc
  obtain ⟨r1, r2, hr⟩ : ∃ r1 r2, scanU vals c 0 = (r1, r2) := ⟨_, _, rfl⟩
  rw [hr]
  have x2' : w.cell? ⟨gc, i * 3 + 1 + 1, none⟩ = some (.int .i64 b) := x2
  have f2' : w.frozen? ⟨gc, i * 3 + 1 + 1, none⟩ = false := f2
  by_cases hn : 1 < c.length
  · obtain ⟨⟨ha0, ha1⟩, hb0, hb1⟩ := HAT.out hn
    obtain ⟨ad, rfl, hxa⟩ := Kd.at_int HC.out a ha0 ha1
    obtain ⟨ad', e', hxb⟩ := Kd.at_int HC.out b hb0 hb1
    cases e'
    have HMA := Aside0.mk (rd_memi ha0 ha1)
    have HMB := Aside0.mk (rd_memi hb0 hb1)
    have HRA := Aside0.mk (HRNG.out _ HMA.out)
    have HRB := Aside0.mk (HRNG.out _ HMB.out)
    obtain ⟨la, hla⟩ : ∃ la, la = rd c a := ⟨_, rfl⟩
    obtain ⟨lb, hlb⟩ : ∃ lb, lb = rd c b := ⟨_, rfl⟩
    rw [← hla] at hxa HMA HRA
    rw [← hlb] at hxb HMB HRB
    have hva := HV.out.val la
    have hvb := HV.out.val lb
    obtain ⟨va, hva2⟩ : ∃ v, v = valL vals la := ⟨_, rfl⟩
    obtain ⟨vb, hvb2⟩ : ∃ v, v = valL vals lb := ⟨_, rfl⟩
    rw [← hva2] at hva
    rw [← hvb2] at hvb
    have HVA := Aside0.mk hva2
    have HVB := Aside0.mk hvb2
    have H' := Aside0.mk hr
    have yes1 : 0 < va → (r1 = 0 ∧ r2 = false) := fun h => by
      have := scanU_true vals (x := la) (by omega) HRA.out.2.2 c 0 HMA.out (.inl rfl)
      rw [hr] at this; injection this with e1 e2; exact ⟨e1, e2⟩
    have yes2 : 0 < vb → (r1 = 0 ∧ r2 = false) := fun h => by
      have := scanU_true vals (x := lb) (by omega) HRB.out.2.2 c 0 HMB.out (.inl rfl)
      rw [hr] at this; injection this with e1 e2; exact ⟨e1, e2⟩
    have yes3 : la ≠ lb → va = 0 → vb = 0 → (r1 = 0 ∧ r2 = false) := fun h ha hb => by
      have := scanU_two vals (x := la) (y := lb) (by omega) (by omega) h HRA.out.2.2 HRB.out.2.2 c 0 (fun _ => ⟨HMA.out, HMB.out⟩) (fun e => absurd e.symm HRA.out.2.2) (fun h => absurd rfl h) (fun e => absurd e.symm HRB.out.2.2) (fun h => absurd rfl h)
      rw [hr] at this; injection this with e1 e2; exact ⟨e1, e2⟩
    have same : la = lb → va = vb := fun e => by rw [hva2, hvb2, e]
    clear hla hlb hva2 hvb2 hr
    have hqa0 : (0 : Int) ≤ a := ha0
    by_cases hab : la = lb
    · have hs := same hab
      have dab : (la != lb) = false := by rw [bne_eq_false_iff_eq]; exact hab
      subst hs
      have hca : va = -1 ∨ va = 0 ∨ va = 1 := by omega
      clear same yes3 yes2
      rcases hca with rfl | rfl | rfl
      · clear hab yes1
        go_enter Try.func36, Try.ntmps36
        go_wp2
        go_quiet (fail)
        go_wp2_with (first | (go_at_call_of 48 (Value.int .i64 la); refine (st_value ok g vals cls marks la _ (HSD.out _) HV.out HRA.out.1 HRA.out.2.1).mono ?_; rw [← HVA.out]; rintro e w' ⟨rfl, rfl⟩) | (go_at_call_of 48 (Value.int .i64 lb); refine (st_value ok g vals cls marks lb _ (HSD.out _) HV.out HRB.out.1 HRB.out.2.1).mono ?_; rw [← HVB.out]; rintro e w' ⟨rfl, rfl⟩))
        go_loopg [9, 10, 75] c.length (fun kq v9 v10 v75 w' => ∃ (op p : Int) (n : Nat), v9 = .int .i64 op ∧ v10 = .int .i64 p ∧ v75 = .int .i64 n ∧ n + kq = c.length ∧ Aside0 (scanU vals (c.drop n) op = (r1, r2)) ∧ Aside0 (0 ≤ p ∧ p ≤ n ∧ (op ≠ 0 → p < n)) ∧ Drawn0 w w')
        case atStart => exact ⟨0, 0, 0, rfl, rfl, rfl, by omega, H', ⟨by omega⟩, by repeat (first | exact Drawn0.refl _ | apply Drawn0.step)⟩
        case round =>
          obtain ⟨op, p, n, rfl, rfl, rfl, hnk, H, HPL, ⟨m1, rfl⟩⟩ := hrel
          cases gk with
          | succ k1 =>
            have hlt : n < c.length := by omega
            obtain ⟨ad2, e2, hx⟩ := Kd.at_int HC.out (n : Int) (by omega) (by omega)
            cases e2
            rw [Int.toNat_natCast] at hx
            have H1 := H.out
            rw [rd_drop' hlt, scanU] at H1
            have HRX := Aside0.mk (HRNG.out _ (rd_mem' hlt))
            obtain ⟨x, hxe⟩ : ∃ x, x = rd c (n : Int) := ⟨_, rfl⟩
            rw [← hxe] at hx H1 HRX
            have hvb := HV.out.val x
            obtain ⟨v, hve⟩ : ∃ v, v = valL vals x := ⟨_, rfl⟩
            rw [← hve] at H1 hvb
            have HVE := Aside0.mk hve
            obtain ⟨hv1, hv2⟩ := hvb
            clear hxe H hve
            by_cases q1 : v < 0
            · rw [if_pos (.inl q1)] at H1
              have H2 := Aside0.mk H1
              clear H1
              go_wp2_with (first | (go_at_call_of 48 (Value.int .i64 x); refine (st_value ok g vals cls marks x _ (HSD.out _) HV.out HRX.out.1 HRX.out.2.1).mono ?_; rw [← HVE.out]; rintro e w' ⟨rfl, rfl⟩))
              go_roundg k1
              case measure => omega
              case rel => exact ⟨op, p, n + 1, rfl, rfl, by go_num, by omega, H2, ⟨by have := HPL.out; omega⟩, by repeat (first | exact Drawn0.refl _ | apply Drawn0.step)⟩
            · have dq1 : decide (v < 0) = false := decide_eq_false q1
              by_cases q2 : x = op
              · rw [if_pos (.inr q2)] at H1
                have H2 := Aside0.mk H1
                have dq2 : (x == op) = true := beq_iff_eq.2 q2
                clear H1 q2
                go_wp2_with (first | (go_at_call_of 48 (Value.int .i64 x); refine (st_value ok g vals cls marks x _ (HSD.out _) HV.out HRX.out.1 HRX.out.2.1).mono ?_; rw [← HVE.out]; rintro e w' ⟨rfl, rfl⟩))
                go_roundg k1
                case measure => omega
                case rel => exact ⟨op, p, n + 1, rfl, rfl, by go_num, by omega, H2, ⟨by have := HPL.out; omega⟩, by repeat (first | exact Drawn0.refl _ | apply Drawn0.step)⟩
              · rw [if_neg (by rintro (q | q); exact q1 q; exact q2 q)] at H1
                have dq2 : (x == op) = false := beq_eq_false_iff_ne.2 q2
                by_cases q3 : 0 < v
                · rw [if_pos q3] at H1
                  injection H1 with e1 e2
                  subst e1 e2
                  clear q2
                  go_wp2_with (first | (go_at_call_of 48 (Value.int .i64 x); refine (st_value ok g vals cls marks x _ (HSD.out _) HV.out HRX.out.1 HRX.out.2.1).mono ?_; rw [← HVE.out]; rintro e w' ⟨rfl, rfl⟩))
                  go_ret2
                  exact ⟨rfl, ⟨_, b, fun h1 => ⟨by omega, (HAT.out h1).2⟩, HP1.out _ _⟩, HRS1.out _ _⟩
                · rw [if_neg q3] at H1
                  have dq3 : decide (0 < v) = false := decide_eq_false q3
                  by_cases q4 : op = 0
                  · rw [if_neg (by omega)] at H1
                    have H2 := Aside0.mk H1
                    subst q4
                    clear H1 q2
                    go_wp2_with (first | (go_at_call_of 48 (Value.int .i64 x); refine (st_value ok g vals cls marks x _ (HSD.out _) HV.out HRX.out.1 HRX.out.2.1).mono ?_; rw [← HVE.out]; rintro e w' ⟨rfl, rfl⟩))
                    go_roundg k1
                    case measure => omega
                    case rel => exact ⟨x, n, n + 1, rfl, rfl, by go_num, by omega, H2, ⟨by omega⟩, by repeat (first | exact Drawn0.refl _ | apply Drawn0.step)⟩
                  · rw [if_pos q4] at H1
                    have dq4 : (op != 0) = true := by rw [bne_iff_ne]; exact q4
                    injection H1 with e1 e2
                    subst e1 e2
                    have HPN : Aside0 (0 ≤ p ∧ p < n) := ⟨by have := HPL.out; exact ⟨this.1, this.2.2 q4⟩⟩
                    clear q2 q4
                    go_wp2_with (first | (go_at_call_of 48 (Value.int .i64 x); refine (st_value ok g vals cls marks x _ (HSD.out _) HV.out HRX.out.1 HRX.out.2.1).mono ?_; rw [← HVE.out]; rintro e w' ⟨rfl, rfl⟩))
                    go_ret2
                    exact ⟨rfl, ⟨p, n, fun h1 => by have := HPN.out; omega, HP2.out _ p n⟩, HRS2.out _ _ _⟩
          | zero =>
            have hie : n = c.length := by omega
            subst hie
            have H1 := H.out
            rw [List.drop_length, scanU] at H1
            injection H1 with e1 e2
            subst e1 e2
            clear H
            go_wp2
            go_ret2
            exact ⟨rfl, ⟨a, b, HAT.out, HSELF.out _⟩, by repeat (first | exact Rest.refl _ _ | apply Rest.drewN)⟩
      · clear hab yes1
        go_enter Try.func36, Try.ntmps36
        go_wp2
        go_quiet (fail)
        go_wp2_with (first | (go_at_call_of 48 (Value.int .i64 la); refine (st_value ok g vals cls marks la _ (HSD.out _) HV.out HRA.out.1 HRA.out.2.1).mono ?_; rw [← HVA.out]; rintro e w' ⟨rfl, rfl⟩) | (go_at_call_of 48 (Value.int .i64 lb); refine (st_value ok g vals cls marks lb _ (HSD.out _) HV.out HRB.out.1 HRB.out.2.1).mono ?_; rw [← HVB.out]; rintro e w' ⟨rfl, rfl⟩))
        go_loopg [9, 10, 75] c.length (fun kq v9 v10 v75 w' => ∃ (op p : Int) (n : Nat), v9 = .int .i64 op ∧ v10 = .int .i64 p ∧ v75 = .int .i64 n ∧ n + kq = c.length ∧ Aside0 (scanU vals (c.drop n) op = (r1, r2)) ∧ Aside0 (0 ≤ p ∧ p ≤ n ∧ (op ≠ 0 → p < n)) ∧ Drawn0 w w')
        case atStart => exact ⟨0, 0, 0, rfl, rfl, rfl, by omega, H', ⟨by omega⟩, by repeat (first | exact Drawn0.refl _ | apply Drawn0.step)⟩
        case round =>
          obtain ⟨op, p, n, rfl, rfl, rfl, hnk, H, HPL, ⟨m1, rfl⟩⟩ := hrel
          cases gk with
          | succ k1 =>
            have hlt : n < c.length := by omega
            obtain ⟨ad2, e2, hx⟩ := Kd.at_int HC.out (n : Int) (by omega) (by omega)
            cases e2
            rw [Int.toNat_natCast] at hx
            have H1 := H.out
            rw [rd_drop' hlt, scanU] at H1
            have HRX := Aside0.mk (HRNG.out _ (rd_mem' hlt))
            obtain ⟨x, hxe⟩ : ∃ x, x = rd c (n : Int) := ⟨_, rfl⟩
            rw [← hxe] at hx H1 HRX
            have hvb := HV.out.val x
            obtain ⟨v, hve⟩ : ∃ v, v = valL vals x := ⟨_, rfl⟩
            rw [← hve] at H1 hvb
            have HVE := Aside0.mk hve
            obtain ⟨hv1, hv2⟩ := hvb
            clear hxe H hve
            by_cases q1 : v < 0
            · rw [if_pos (.inl q1)] at H1
              have H2 := Aside0.mk H1
              clear H1
              go_wp2_with (first | (go_at_call_of 48 (Value.int .i64 x); refine (st_value ok g vals cls marks x _ (HSD.out _) HV.out HRX.out.1 HRX.out.2.1).mono ?_; rw [← HVE.out]; rintro e w' ⟨rfl, rfl⟩))
              go_roundg k1
              case measure => omega
              case rel => exact ⟨op, p, n + 1, rfl, rfl, by go_num, by omega, H2, ⟨by have := HPL.out; omega⟩, by repeat (first | exact Drawn0.refl _ | apply Drawn0.step)⟩
            · have dq1 : decide (v < 0) = false := decide_eq_false q1
              by_cases q2 : x = op
              · rw [if_pos (.inr q2)] at H1
                have H2 := Aside0.mk H1
                have dq2 : (x == op) = true := beq_iff_eq.2 q2
                clear H1 q2
                go_wp2_with (first | (go_at_call_of 48 (Value.int .i64 x); refine (st_value ok g vals cls marks x _ (HSD.out _) HV.out HRX.out.1 HRX.out.2.1).mono ?_; rw [← HVE.out]; rintro e w' ⟨rfl, rfl⟩))
                go_roundg k1
                case measure => omega
                case rel => exact ⟨op, p, n + 1, rfl, rfl, by go_num, by omega, H2, ⟨by have := HPL.out; omega⟩, by repeat (first | exact Drawn0.refl _ | apply Drawn0.step)⟩
              · rw [if_neg (by rintro (q | q); exact q1 q; exact q2 q)] at H1
                have dq2 : (x == op) = false := beq_eq_false_iff_ne.2 q2
                by_cases q3 : 0 < v
                · rw [if_pos q3] at H1
                  injection H1 with e1 e2
                  subst e1 e2
                  clear q2
                  go_wp2_with (first | (go_at_call_of 48 (Value.int .i64 x); refine (st_value ok g vals cls marks x _ (HSD.out _) HV.out HRX.out.1 HRX.out.2.1).mono ?_; rw [← HVE.out]; rintro e w' ⟨rfl, rfl⟩))
                  go_ret2
                  exact ⟨rfl, ⟨_, b, fun h1 => ⟨by omega, (HAT.out h1).2⟩, HP1.out _ _⟩, HRS1.out _ _⟩
                · rw [if_neg q3] at H1
                  have dq3 : decide (0 < v) = false := decide_eq_false q3
                  by_cases q4 : op = 0
                  · rw [if_neg (by omega)] at H1
                    have H2 := Aside0.mk H1
                    subst q4
                    clear H1 q2
                    go_wp2_with (first | (go_at_call_of 48 (Value.int .i64 x); refine (st_value ok g vals cls marks x _ (HSD.out _) HV.out HRX.out.1 HRX.out.2.1).mono ?_; rw [← HVE.out]; rintro e w' ⟨rfl, rfl⟩))
                    go_roundg k1
                    case measure => omega
                    case rel => exact ⟨x, n, n + 1, rfl, rfl, by go_num, by omega, H2, ⟨by omega⟩, by repeat (first | exact Drawn0.refl _ | apply Drawn0.step)⟩
                  · rw [if_pos q4] at H1
                    have dq4 : (op != 0) = true := by rw [bne_iff_ne]; exact q4
                    injection H1 with e1 e2
                    subst e1 e2
                    have HPN : Aside0 (0 ≤ p ∧ p < n) := ⟨by have := HPL.out; exact ⟨this.1, this.2.2 q4⟩⟩
                    clear q2 q4
                    go_wp2_with (first | (go_at_call_of 48 (Value.int .i64 x); refine (st_value ok g vals cls marks x _ (HSD.out _) HV.out HRX.out.1 HRX.out.2.1).mono ?_; rw [← HVE.out]; rintro e w' ⟨rfl, rfl⟩))
                    go_ret2
                    exact ⟨rfl, ⟨p, n, fun h1 => by have := HPN.out; omega, HP2.out _ p n⟩, HRS2.out _ _ _⟩
          | zero =>
            have hie : n = c.length := by omega
            subst hie
            have H1 := H.out
            rw [List.drop_length, scanU] at H1
            injection H1 with e1 e2
            subst e1 e2
            clear H
            go_wp2
            go_ret2
            exact ⟨rfl, ⟨a, b, HAT.out, HSELF.out _⟩, by repeat (first | exact Rest.refl _ _ | apply Rest.drewN)⟩
      · obtain ⟨rfl, rfl⟩ := yes1 (by omega)
        clear hab yes1
        go_enter Try.func36, Try.ntmps36
        go_wp2
        go_quiet (fail)
        go_wp2_with (first | (go_at_call_of 48 (Value.int .i64 la); refine (st_value ok g vals cls marks la _ (HSD.out _) HV.out HRA.out.1 HRA.out.2.1).mono ?_; rw [← HVA.out]; rintro e w' ⟨rfl, rfl⟩) | (go_at_call_of 48 (Value.int .i64 lb); refine (st_value ok g vals cls marks lb _ (HSD.out _) HV.out HRB.out.1 HRB.out.2.1).mono ?_; rw [← HVB.out]; rintro e w' ⟨rfl, rfl⟩))
        go_ret2
        exact ⟨rfl, ⟨a, b, HAT.out, HSELF.out _⟩, by repeat (first | exact Rest.refl _ _ | apply Rest.drewN)⟩
    · have dab : (la != lb) = true := by rw [bne_iff_ne]; exact hab
      have hca : va = -1 ∨ va = 0 ∨ va = 1 := by omega
      have hcb : vb = -1 ∨ vb = 0 ∨ vb = 1 := by omega
      clear same
      rcases hca with rfl | rfl | rfl
      · rcases hcb with rfl | rfl | rfl
        · clear hab yes1 yes2 yes3
          go_enter Try.func36, Try.ntmps36
          go_wp2
          go_quiet (fail)
          go_wp2_with (first | (go_at_call_of 48 (Value.int .i64 la); refine (st_value ok g vals cls marks la _ (HSD.out _) HV.out HRA.out.1 HRA.out.2.1).mono ?_; rw [← HVA.out]; rintro e w' ⟨rfl, rfl⟩) | (go_at_call_of 48 (Value.int .i64 lb); refine (st_value ok g vals cls marks lb _ (HSD.out _) HV.out HRB.out.1 HRB.out.2.1).mono ?_; rw [← HVB.out]; rintro e w' ⟨rfl, rfl⟩))
          go_loopg [9, 10, 75] c.length (fun kq v9 v10 v75 w' => ∃ (op p : Int) (n : Nat), v9 = .int .i64 op ∧ v10 = .int .i64 p ∧ v75 = .int .i64 n ∧ n + kq = c.length ∧ Aside0 (scanU vals (c.drop n) op = (r1, r2)) ∧ Aside0 (0 ≤ p ∧ p ≤ n ∧ (op ≠ 0 → p < n)) ∧ Drawn0 w w')
          case atStart => exact ⟨0, 0, 0, rfl, rfl, rfl, by omega, H', ⟨by omega⟩, by repeat (first | exact Drawn0.refl _ | apply Drawn0.step)⟩
          case round =>
            obtain ⟨op, p, n, rfl, rfl, rfl, hnk, H, HPL, ⟨m1, rfl⟩⟩ := hrel
            cases gk with
            | succ k1 =>
              have hlt : n < c.length := by omega
              obtain ⟨ad2, e2, hx⟩ := Kd.at_int HC.out (n : Int) (by omega) (by omega)
              cases e2
              rw [Int.toNat_natCast] at hx
              have H1 := H.out
              rw [rd_drop' hlt, scanU] at H1
              have HRX := Aside0.mk (HRNG.out _ (rd_mem' hlt))
              obtain ⟨x, hxe⟩ : ∃ x, x = rd c (n : Int) := ⟨_, rfl⟩
              rw [← hxe] at hx H1 HRX
              have hvb := HV.out.val x
              obtain ⟨v, hve⟩ : ∃ v, v = valL vals x := ⟨_, rfl⟩
              rw [← hve] at H1 hvb
              have HVE := Aside0.mk hve
              obtain ⟨hv1, hv2⟩ := hvb
              clear hxe H hve
              by_cases q1 : v < 0
              · rw [if_pos (.inl q1)] at H1
                have H2 := Aside0.mk H1
                clear H1
                go_wp2_with (first | (go_at_call_of 48 (Value.int .i64 x); refine (st_value ok g vals cls marks x _ (HSD.out _) HV.out HRX.out.1 HRX.out.2.1).mono ?_; rw [← HVE.out]; rintro e w' ⟨rfl, rfl⟩))
                go_roundg k1
                case measure => omega
                case rel => exact ⟨op, p, n + 1, rfl, rfl, by go_num, by omega, H2, ⟨by have := HPL.out; omega⟩, by repeat (first | exact Drawn0.refl _ | apply Drawn0.step)⟩
              · have dq1 : decide (v < 0) = false := decide_eq_false q1
                by_cases q2 : x = op
                · rw [if_pos (.inr q2)] at H1
                  have H2 := Aside0.mk H1
                  have dq2 : (x == op) = true := beq_iff_eq.2 q2
                  clear H1 q2
                  go_wp2_with (first | (go_at_call_of 48 (Value.int .i64 x); refine (st_value ok g vals cls marks x _ (HSD.out _) HV.out HRX.out.1 HRX.out.2.1).mono ?_; rw [← HVE.out]; rintro e w' ⟨rfl, rfl⟩))
                  go_roundg k1
                  case measure => omega
                  case rel => exact ⟨op, p, n + 1, rfl, rfl, by go_num, by omega, H2, ⟨by have := HPL.out; omega⟩, by repeat (first | exact Drawn0.refl _ | apply Drawn0.step)⟩
                · rw [if_neg (by rintro (q | q); exact q1 q; exact q2 q)] at H1
                  have dq2 : (x == op) = false := beq_eq_false_iff_ne.2 q2
                  by_cases q3 : 0 < v
                  · rw [if_pos q3] at H1
                    injection H1 with e1 e2
                    subst e1 e2
                    clear q2
                    go_wp2_with (first | (go_at_call_of 48 (Value.int .i64 x); refine (st_value ok g vals cls marks x _ (HSD.out _) HV.out HRX.out.1 HRX.out.2.1).mono ?_; rw [← HVE.out]; rintro e w' ⟨rfl, rfl⟩))
                    go_ret2
                    exact ⟨rfl, ⟨_, b, fun h1 => ⟨by omega, (HAT.out h1).2⟩, HP1.out _ _⟩, HRS1.out _ _⟩
                  · rw [if_neg q3] at H1
                    have dq3 : decide (0 < v) = false := decide_eq_false q3
                    by_cases q4 : op = 0
                    · rw [if_neg (by omega)] at H1
                      have H2 := Aside0.mk H1
                      subst q4
                      clear H1 q2
                      go_wp2_with (first | (go_at_call_of 48 (Value.int .i64 x); refine (st_value ok g vals cls marks x _ (HSD.out _) HV.out HRX.out.1 HRX.out.2.1).mono ?_; rw [← HVE.out]; rintro e w' ⟨rfl, rfl⟩))
                      go_roundg k1
                      case measure => omega
                      case rel => exact ⟨x, n, n + 1, rfl, rfl, by go_num, by omega, H2, ⟨by omega⟩, by repeat (first | exact Drawn0.refl _ | apply Drawn0.step)⟩
                    · rw [if_pos q4] at H1
                      have dq4 : (op != 0) = true := by rw [bne_iff_ne]; exact q4
                      injection H1 with e1 e2
                      subst e1 e2
                      have HPN : Aside0 (0 ≤ p ∧ p < n) := ⟨by have := HPL.out; exact ⟨this.1, this.2.2 q4⟩⟩
                      clear q2 q4
                      go_wp2_with (first | (go_at_call_of 48 (Value.int .i64 x); refine (st_value ok g vals cls marks x _ (HSD.out _) HV.out HRX.out.1 HRX.out.2.1).mono ?_; rw [← HVE.out]; rintro e w' ⟨rfl, rfl⟩))
                      go_ret2
                      exact ⟨rfl, ⟨p, n, fun h1 => by have := HPN.out; omega, HP2.out _ p n⟩, HRS2.out _ _ _⟩
            | zero =>
              have hie : n = c.length := by omega
              subst hie
              have H1 := H.out
              rw [List.drop_length, scanU] at H1
              injection H1 with e1 e2
              subst e1 e2
              clear H
              go_wp2
              go_ret2
              exact ⟨rfl, ⟨a, b, HAT.out, HSELF.out _⟩, by repeat (first | exact Rest.refl _ _ | apply Rest.drewN)⟩
        · clear hab yes1 yes2 yes3
          go_enter Try.func36, Try.ntmps36
          go_wp2
          go_quiet (fail)
          go_wp2_with (first | (go_at_call_of 48 (Value.int .i64 la); refine (st_value ok g vals cls marks la _ (HSD.out _) HV.out HRA.out.1 HRA.out.2.1).mono ?_; rw [← HVA.out]; rintro e w' ⟨rfl, rfl⟩) | (go_at_call_of 48 (Value.int .i64 lb); refine (st_value ok g vals cls marks lb _ (HSD.out _) HV.out HRB.out.1 HRB.out.2.1).mono ?_; rw [← HVB.out]; rintro e w' ⟨rfl, rfl⟩))
          go_loopg [9, 10, 75] c.length (fun kq v9 v10 v75 w' => ∃ (op p : Int) (n : Nat), v9 = .int .i64 op ∧ v10 = .int .i64 p ∧ v75 = .int .i64 n ∧ n + kq = c.length ∧ Aside0 (scanU vals (c.drop n) op = (r1, r2)) ∧ Aside0 (0 ≤ p ∧ p ≤ n ∧ (op ≠ 0 → p < n)) ∧ Drawn0 w w')
          case atStart => exact ⟨0, 0, 0, rfl, rfl, rfl, by omega, H', ⟨by omega⟩, by repeat (first | exact Drawn0.refl _ | apply Drawn0.step)⟩
          case round =>
            obtain ⟨op, p, n, rfl, rfl, rfl, hnk, H, HPL, ⟨m1, rfl⟩⟩ := hrel
            cases gk with
            | succ k1 =>
              have hlt : n < c.length := by omega
              obtain ⟨ad2, e2, hx⟩ := Kd.at_int HC.out (n : Int) (by omega) (by omega)
              cases e2
              rw [Int.toNat_natCast] at hx
              have H1 := H.out
              rw [rd_drop' hlt, scanU] at H1
              have HRX := Aside0.mk (HRNG.out _ (rd_mem' hlt))
              obtain ⟨x, hxe⟩ : ∃ x, x = rd c (n : Int) := ⟨_, rfl⟩
              rw [← hxe] at hx H1 HRX
              have hvb := HV.out.val x
              obtain ⟨v, hve⟩ : ∃ v, v = valL vals x := ⟨_, rfl⟩
              rw [← hve] at H1 hvb
              have HVE := Aside0.mk hve
              obtain ⟨hv1, hv2⟩ := hvb
              clear hxe H hve
              by_cases q1 : v < 0
              · rw [if_pos (.inl q1)] at H1
                have H2 := Aside0.mk H1
                clear H1
                go_wp2_with (first | (go_at_call_of 48 (Value.int .i64 x); refine (st_value ok g vals cls marks x _ (HSD.out _) HV.out HRX.out.1 HRX.out.2.1).mono ?_; rw [← HVE.out]; rintro e w' ⟨rfl, rfl⟩))
                go_roundg k1
                case measure => omega
                case rel => exact ⟨op, p, n + 1, rfl, rfl, by go_num, by omega, H2, ⟨by have := HPL.out; omega⟩, by repeat (first | exact Drawn0.refl _ | apply Drawn0.step)⟩
              · have dq1 : decide (v < 0) = false := decide_eq_false q1
                by_cases q2 : x = op
                · rw [if_pos (.inr q2)] at H1
                  have H2 := Aside0.mk H1
                  have dq2 : (x == op) = true := beq_iff_eq.2 q2
                  clear H1 q2
                  go_wp2_with (first | (go_at_call_of 48 (Value.int .i64 x); refine (st_value ok g vals cls marks x _ (HSD.out _) HV.out HRX.out.1 HRX.out.2.1).mono ?_; rw [← HVE.out]; rintro e w' ⟨rfl, rfl⟩))
                  go_roundg k1
                  case measure => omega
                  case rel => exact ⟨op, p, n + 1, rfl, rfl, by go_num, by omega, H2, ⟨by have := HPL.out; omega⟩, by repeat (first | exact Drawn0.refl _ | apply Drawn0.step)⟩
                · rw [if_neg (by rintro (q | q); exact q1 q; exact q2 q)] at H1
                  have dq2 : (x == op) = false := beq_eq_false_iff_ne.2 q2
                  by_cases q3 : 0 < v
                  · rw [if_pos q3] at H1
                    injection H1 with e1 e2
                    subst e1 e2
                    clear q2
                    go_wp2_with (first | (go_at_call_of 48 (Value.int .i64 x); refine (st_value ok g vals cls marks x _ (HSD.out _) HV.out HRX.out.1 HRX.out.2.1).mono ?_; rw [← HVE.out]; rintro e w' ⟨rfl, rfl⟩))
                    go_ret2
                    exact ⟨rfl, ⟨_, b, fun h1 => ⟨by omega, (HAT.out h1).2⟩, HP1.out _ _⟩, HRS1.out _ _⟩
                  · rw [if_neg q3] at H1
                    have dq3 : decide (0 < v) = false := decide_eq_false q3
                    by_cases q4 : op = 0
                    · rw [if_neg (by omega)] at H1
                      have H2 := Aside0.mk H1
                      subst q4
                      clear H1 q2
                      go_wp2_with (first | (go_at_call_of 48 (Value.int .i64 x); refine (st_value ok g vals cls marks x _ (HSD.out _) HV.out HRX.out.1 HRX.out.2.1).mono ?_; rw [← HVE.out]; rintro e w' ⟨rfl, rfl⟩))
                      go_roundg k1
                      case measure => omega
                      case rel => exact ⟨x, n, n + 1, rfl, rfl, by go_num, by omega, H2, ⟨by omega⟩, by repeat (first | exact Drawn0.refl _ | apply Drawn0.step)⟩
                    · rw [if_pos q4] at H1
                      have dq4 : (op != 0) = true := by rw [bne_iff_ne]; exact q4
                      injection H1 with e1 e2
                      subst e1 e2
                      have HPN : Aside0 (0 ≤ p ∧ p < n) := ⟨by have := HPL.out; exact ⟨this.1, this.2.2 q4⟩⟩
                      clear q2 q4
                      go_wp2_with (first | (go_at_call_of 48 (Value.int .i64 x); refine (st_value ok g vals cls marks x _ (HSD.out _) HV.out HRX.out.1 HRX.out.2.1).mono ?_; rw [← HVE.out]; rintro e w' ⟨rfl, rfl⟩))
                      go_ret2
                      exact ⟨rfl, ⟨p, n, fun h1 => by have := HPN.out; omega, HP2.out _ p n⟩, HRS2.out _ _ _⟩
            | zero =>
              have hie : n = c.length := by omega
              subst hie
              have H1 := H.out
              rw [List.drop_length, scanU] at H1
              injection H1 with e1 e2
              subst e1 e2
              clear H
              go_wp2
              go_ret2
              exact ⟨rfl, ⟨a, b, HAT.out, HSELF.out _⟩, by repeat (first | exact Rest.refl _ _ | apply Rest.drewN)⟩
        · obtain ⟨rfl, rfl⟩ := yes2 (by omega)
          clear hab yes1 yes2 yes3
          go_enter Try.func36, Try.ntmps36
          go_wp2
          go_quiet (fail)
          go_wp2_with (first | (go_at_call_of 48 (Value.int .i64 la); refine (st_value ok g vals cls marks la _ (HSD.out _) HV.out HRA.out.1 HRA.out.2.1).mono ?_; rw [← HVA.out]; rintro e w' ⟨rfl, rfl⟩) | (go_at_call_of 48 (Value.int .i64 lb); refine (st_value ok g vals cls marks lb _ (HSD.out _) HV.out HRB.out.1 HRB.out.2.1).mono ?_; rw [← HVB.out]; rintro e w' ⟨rfl, rfl⟩))
          go_ret2
          exact ⟨rfl, ⟨a, b, HAT.out, HSELF.out _⟩, by repeat (first | exact Rest.refl _ _ | apply Rest.drewN)⟩
      · rcases hcb with rfl | rfl | rfl
        · clear hab yes1 yes2 yes3
          go_enter Try.func36, Try.ntmps36
          go_wp2
          go_quiet (fail)
          go_wp2_with (first | (go_at_call_of 48 (Value.int .i64 la); refine (st_value ok g vals cls marks la _ (HSD.out _) HV.out HRA.out.1 HRA.out.2.1).mono ?_; rw [← HVA.out]; rintro e w' ⟨rfl, rfl⟩) | (go_at_call_of 48 (Value.int .i64 lb); refine (st_value ok g vals cls marks lb _ (HSD.out _) HV.out HRB.out.1 HRB.out.2.1).mono ?_; rw [← HVB.out]; rintro e w' ⟨rfl, rfl⟩))
          go_loopg [9, 10, 75] c.length (fun kq v9 v10 v75 w' => ∃ (op p : Int) (n : Nat), v9 = .int .i64 op ∧ v10 = .int .i64 p ∧ v75 = .int .i64 n ∧ n + kq = c.length ∧ Aside0 (scanU vals (c.drop n) op = (r1, r2)) ∧ Aside0 (0 ≤ p ∧ p ≤ n ∧ (op ≠ 0 → p < n)) ∧ Drawn0 w w')
          case atStart => exact ⟨0, 0, 0, rfl, rfl, rfl, by omega, H', ⟨by omega⟩, by repeat (first | exact Drawn0.refl _ | apply Drawn0.step)⟩
          case round =>
            obtain ⟨op, p, n, rfl, rfl, rfl, hnk, H, HPL, ⟨m1, rfl⟩⟩ := hrel
            cases gk with
            | succ k1 =>
              have hlt : n < c.length := by omega
              obtain ⟨ad2, e2, hx⟩ := Kd.at_int HC.out (n : Int) (by omega) (by omega)
              cases e2
              rw [Int.toNat_natCast] at hx
              have H1 := H.out
              rw [rd_drop' hlt, scanU] at H1
              have HRX := Aside0.mk (HRNG.out _ (rd_mem' hlt))
              obtain ⟨x, hxe⟩ : ∃ x, x = rd c (n : Int) := ⟨_, rfl⟩
              rw [← hxe] at hx H1 HRX
              have hvb := HV.out.val x
              obtain ⟨v, hve⟩ : ∃ v, v = valL vals x := ⟨_, rfl⟩
              rw [← hve] at H1 hvb
              have HVE := Aside0.mk hve
              obtain ⟨hv1, hv2⟩ := hvb
              clear hxe H hve
              by_cases q1 : v < 0
              · rw [if_pos (.inl q1)] at H1
                have H2 := Aside0.mk H1
                clear H1
                go_wp2_with (first | (go_at_call_of 48 (Value.int .i64 x); refine (st_value ok g vals cls marks x _ (HSD.out _) HV.out HRX.out.1 HRX.out.2.1).mono ?_; rw [← HVE.out]; rintro e w' ⟨rfl, rfl⟩))
                go_roundg k1
                case measure => omega
                case rel => exact ⟨op, p, n + 1, rfl, rfl, by go_num, by omega, H2, ⟨by have := HPL.out; omega⟩, by repeat (first | exact Drawn0.refl _ | apply Drawn0.step)⟩
              · have dq1 : decide (v < 0) = false := decide_eq_false q1
                by_cases q2 : x = op
                · rw [if_pos (.inr q2)] at H1
                  have H2 := Aside0.mk H1
                  have dq2 : (x == op) = true := beq_iff_eq.2 q2
                  clear H1 q2
                  go_wp2_with (first | (go_at_call_of 48 (Value.int .i64 x); refine (st_value ok g vals cls marks x _ (HSD.out _) HV.out HRX.out.1 HRX.out.2.1).mono ?_; rw [← HVE.out]; rintro e w' ⟨rfl, rfl⟩))
                  go_roundg k1
                  case measure => omega
                  case rel => exact ⟨op, p, n + 1, rfl, rfl, by go_num, by omega, H2, ⟨by have := HPL.out; omega⟩, by repeat (first | exact Drawn0.refl _ | apply Drawn0.step)⟩
                · rw [if_neg (by rintro (q | q); exact q1 q; exact q2 q)] at H1
                  have dq2 : (x == op) = false := beq_eq_false_iff_ne.2 q2
                  by_cases q3 : 0 < v
                  · rw [if_pos q3] at H1
                    injection H1 with e1 e2
                    subst e1 e2
                    clear q2
                    go_wp2_with (first | (go_at_call_of 48 (Value.int .i64 x); refine (st_value ok g vals cls marks x _ (HSD.out _) HV.out HRX.out.1 HRX.out.2.1).mono ?_; rw [← HVE.out]; rintro e w' ⟨rfl, rfl⟩))
                    go_ret2
                    exact ⟨rfl, ⟨_, b, fun h1 => ⟨by omega, (HAT.out h1).2⟩, HP1.out _ _⟩, HRS1.out _ _⟩
                  · rw [if_neg q3] at H1
                    have dq3 : decide (0 < v) = false := decide_eq_false q3
                    by_cases q4 : op = 0
                    · rw [if_neg (by omega)] at H1
                      have H2 := Aside0.mk H1
                      subst q4
                      clear H1 q2
                      go_wp2_with (first | (go_at_call_of 48 (Value.int .i64 x); refine (st_value ok g vals cls marks x _ (HSD.out _) HV.out HRX.out.1 HRX.out.2.1).mono ?_; rw [← HVE.out]; rintro e w' ⟨rfl, rfl⟩))
                      go_roundg k1
                      case measure => omega
                      case rel => exact ⟨x, n, n + 1, rfl, rfl, by go_num, by omega, H2, ⟨by omega⟩, by repeat (first | exact Drawn0.refl _ | apply Drawn0.step)⟩
                    · rw [if_pos q4] at H1
                      have dq4 : (op != 0) = true := by rw [bne_iff_ne]; exact q4
                      injection H1 with e1 e2
                      subst e1 e2
                      have HPN : Aside0 (0 ≤ p ∧ p < n) := ⟨by have := HPL.out; exact ⟨this.1, this.2.2 q4⟩⟩
                      clear q2 q4
                      go_wp2_with (first | (go_at_call_of 48 (Value.int .i64 x); refine (st_value ok g vals cls marks x _ (HSD.out _) HV.out HRX.out.1 HRX.out.2.1).mono ?_; rw [← HVE.out]; rintro e w' ⟨rfl, rfl⟩))
                      go_ret2
                      exact ⟨rfl, ⟨p, n, fun h1 => by have := HPN.out; omega, HP2.out _ p n⟩, HRS2.out _ _ _⟩
            | zero =>
              have hie : n = c.length := by omega
              subst hie
              have H1 := H.out
              rw [List.drop_length, scanU] at H1
              injection H1 with e1 e2
              subst e1 e2
              clear H
              go_wp2
              go_ret2
              exact ⟨rfl, ⟨a, b, HAT.out, HSELF.out _⟩, by repeat (first | exact Rest.refl _ _ | apply Rest.drewN)⟩
        · obtain ⟨rfl, rfl⟩ := yes3 hab rfl rfl
          clear hab yes1 yes2 yes3
          go_enter Try.func36, Try.ntmps36
          go_wp2
          go_quiet (fail)
          go_wp2_with (first | (go_at_call_of 48 (Value.int .i64 la); refine (st_value ok g vals cls marks la _ (HSD.out _) HV.out HRA.out.1 HRA.out.2.1).mono ?_; rw [← HVA.out]; rintro e w' ⟨rfl, rfl⟩) | (go_at_call_of 48 (Value.int .i64 lb); refine (st_value ok g vals cls marks lb _ (HSD.out _) HV.out HRB.out.1 HRB.out.2.1).mono ?_; rw [← HVB.out]; rintro e w' ⟨rfl, rfl⟩))
          go_ret2
          exact ⟨rfl, ⟨a, b, HAT.out, HSELF.out _⟩, by repeat (first | exact Rest.refl _ _ | apply Rest.drewN)⟩
        · obtain ⟨rfl, rfl⟩ := yes2 (by omega)
          clear hab yes1 yes2 yes3
          go_enter Try.func36, Try.ntmps36
          go_wp2
          go_quiet (fail)
          go_wp2_with (first | (go_at_call_of 48 (Value.int .i64 la); refine (st_value ok g vals cls marks la _ (HSD.out _) HV.out HRA.out.1 HRA.out.2.1).mono ?_; rw [← HVA.out]; rintro e w' ⟨rfl, rfl⟩) | (go_at_call_of 48 (Value.int .i64 lb); refine (st_value ok g vals cls marks lb _ (HSD.out _) HV.out HRB.out.1 HRB.out.2.1).mono ?_; rw [← HVB.out]; rintro e w' ⟨rfl, rfl⟩))
          go_ret2
          exact ⟨rfl, ⟨a, b, HAT.out, HSELF.out _⟩, by repeat (first | exact Rest.refl _ _ | apply Rest.drewN)⟩
      · obtain ⟨rfl, rfl⟩ := yes1 (by omega)
        clear hab yes1
        go_enter Try.func36, Try.ntmps36
        go_wp2
        go_quiet (fail)
        go_wp2_with (first | (go_at_call_of 48 (Value.int .i64 la); refine (st_value ok g vals cls marks la _ (HSD.out _) HV.out HRA.out.1 HRA.out.2.1).mono ?_; rw [← HVA.out]; rintro e w' ⟨rfl, rfl⟩) | (go_at_call_of 48 (Value.int .i64 lb); refine (st_value ok g vals cls marks lb _ (HSD.out _) HV.out HRB.out.1 HRB.out.2.1).mono ?_; rw [← HVB.out]; rintro e w' ⟨rfl, rfl⟩))
        go_ret2
        exact ⟨rfl, ⟨a, b, HAT.out, HSELF.out _⟩, by repeat (first | exact Rest.refl _ _ | apply Rest.drewN)⟩
  · have H' := Aside0.mk hr
    clear hr
    obtain ⟨A', hA'⟩ : ∃ A', A' = A := ⟨_, rfl⟩
    go_enter Try.func36, Try.ntmps36
    go_wp2
    go_loopg [9, 10, 75] c.length (fun kq v9 v10 v75 w' => ∃ (op p : Int) (n : Nat), v9 = .int .i64 op ∧ v10 = .int .i64 p ∧ v75 = .int .i64 n ∧ n + kq = c.length ∧ Aside0 (scanU vals (c.drop n) op = (r1, r2)) ∧ Aside0 (0 ≤ p ∧ p ≤ n ∧ (op ≠ 0 → p < n)) ∧ Drawn0 w w')
    case atStart => exact ⟨0, 0, 0, rfl, rfl, rfl, by omega, H', ⟨by omega⟩, by repeat (first | exact Drawn0.refl _ | apply Drawn0.step)⟩
    case round =>
      obtain ⟨op, p, n, rfl, rfl, rfl, hnk, H, HPL, ⟨m1, rfl⟩⟩ := hrel
      cases gk with
      | succ k1 =>
        have hlt : n < c.length := by omega
        obtain ⟨ad2, e2, hx⟩ := Kd.at_int HC.out (n : Int) (by omega) (by omega)
        cases e2
        rw [Int.toNat_natCast] at hx
        have H1 := H.out
        rw [rd_drop' hlt, scanU] at H1
        have HRX := Aside0.mk (HRNG.out _ (rd_mem' hlt))
        obtain ⟨x, hxe⟩ : ∃ x, x = rd c (n : Int) := ⟨_, rfl⟩
        rw [← hxe] at hx H1 HRX
        have hvb := HV.out.val x
        obtain ⟨v, hve⟩ : ∃ v, v = valL vals x := ⟨_, rfl⟩
        rw [← hve] at H1 hvb
        have HVE := Aside0.mk hve
        obtain ⟨hv1, hv2⟩ := hvb
        clear hxe H hve
        by_cases q1 : v < 0
        · rw [if_pos (.inl q1)] at H1
          have H2 := Aside0.mk H1
          clear H1
          go_wp2_with (first | (go_at_call_of 48 (Value.int .i64 x); refine (st_value ok g vals cls marks x _ (HSD.out _) HV.out HRX.out.1 HRX.out.2.1).mono ?_; rw [← HVE.out]; rintro e w' ⟨rfl, rfl⟩))
          go_roundg k1
          case measure => omega
          case rel => exact ⟨op, p, n + 1, rfl, rfl, by go_num, by omega, H2, ⟨by have := HPL.out; omega⟩, by repeat (first | exact Drawn0.refl _ | apply Drawn0.step)⟩
        · have dq1 : decide (v < 0) = false := decide_eq_false q1
          by_cases q2 : x = op
          · rw [if_pos (.inr q2)] at H1
            have H2 := Aside0.mk H1
            have dq2 : (x == op) = true := beq_iff_eq.2 q2
            clear H1 q2
            go_wp2_with (first | (go_at_call_of 48 (Value.int .i64 x); refine (st_value ok g vals cls marks x _ (HSD.out _) HV.out HRX.out.1 HRX.out.2.1).mono ?_; rw [← HVE.out]; rintro e w' ⟨rfl, rfl⟩))
            go_roundg k1
            case measure => omega
            case rel => exact ⟨op, p, n + 1, rfl, rfl, by go_num, by omega, H2, ⟨by have := HPL.out; omega⟩, by repeat (first | exact Drawn0.refl _ | apply Drawn0.step)⟩
          · rw [if_neg (by rintro (q | q); exact q1 q; exact q2 q)] at H1
            have dq2 : (x == op) = false := beq_eq_false_iff_ne.2 q2
            by_cases q3 : 0 < v
            · rw [if_pos q3] at H1
              injection H1 with e1 e2
              subst e1 e2
              clear q2
              go_wp2_with (first | (go_at_call_of 48 (Value.int .i64 x); refine (st_value ok g vals cls marks x _ (HSD.out _) HV.out HRX.out.1 HRX.out.2.1).mono ?_; rw [← HVE.out]; rintro e w' ⟨rfl, rfl⟩))
              go_ret2
              exact ⟨rfl, ⟨_, b, fun h1 => ⟨by omega, (HAT.out h1).2⟩, HP1.out _ _⟩, HRS1.out _ _⟩
            · rw [if_neg q3] at H1
              have dq3 : decide (0 < v) = false := decide_eq_false q3
              by_cases q4 : op = 0
              · rw [if_neg (by omega)] at H1
                have H2 := Aside0.mk H1
                subst q4
                clear H1 q2
                go_wp2_with (first | (go_at_call_of 48 (Value.int .i64 x); refine (st_value ok g vals cls marks x _ (HSD.out _) HV.out HRX.out.1 HRX.out.2.1).mono ?_; rw [← HVE.out]; rintro e w' ⟨rfl, rfl⟩))
                go_roundg k1
                case measure => omega
                case rel => exact ⟨x, n, n + 1, rfl, rfl, by go_num, by omega, H2, ⟨by omega⟩, by repeat (first | exact Drawn0.refl _ | apply Drawn0.step)⟩
              · rw [if_pos q4] at H1
                have dq4 : (op != 0) = true := by rw [bne_iff_ne]; exact q4
                injection H1 with e1 e2
                subst e1 e2
                have HPN : Aside0 (0 ≤ p ∧ p < n) := ⟨by have := HPL.out; exact ⟨this.1, this.2.2 q4⟩⟩
                clear q2 q4
                go_wp2_with (first | (go_at_call_of 48 (Value.int .i64 x); refine (st_value ok g vals cls marks x _ (HSD.out _) HV.out HRX.out.1 HRX.out.2.1).mono ?_; rw [← HVE.out]; rintro e w' ⟨rfl, rfl⟩))
                go_ret2
                exact ⟨rfl, ⟨p, n, fun h1 => by have := HPN.out; omega, HP2.out _ p n⟩, HRS2.out _ _ _⟩
      | zero =>
        have hie : n = c.length := by omega
        subst hie
        have H1 := H.out
        rw [List.drop_length, scanU] at H1
        injection H1 with e1 e2
        subst e1 e2
        clear H
        go_wp2
        go_ret2
        exact ⟨rfl, ⟨a, b, HAT.out, HSELF.out _⟩, by repeat (first | exact Rest.refl _ _ | apply Rest.drewN)⟩

end Go.Proofs.Ytegaaobiedfjcaa.PU
