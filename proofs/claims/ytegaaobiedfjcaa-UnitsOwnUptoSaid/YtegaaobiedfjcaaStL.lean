import Derived.Test.YtegaaobiedfjcaaStH
import Derived.Deep.RegionHeld3
import Derived.Deep.RegionWith
namespace Go.Proofs.Ytegaaobiedfjcaa.PU
open Go.RowKit Go.Proofs.YtegaaobiedfjcaaW.PrintWords Go.Proofs.YtegaaobiedfjcaaW.PrintLast Go.Proofs.YtegaaobiedfjcaaW.PrintMore Go.Proofs.YtegaaobiedfjcaaH
set_option linter.unusedVariables false
set_option linter.unusedSimpArgs false
set_option maxHeartbeats 16000000 in
set_option maxRecDepth 100000 in
theorem is_walk (ok : Nat → Prop) (g : Nat) (vals : List Int) (cls : List (List Int × Int × Int)) (marks : List S48) (Al : Option Addr) (cl : Nat) (ml : List (List Int)) (Am : Option Addr) (cm : Nat) (w : World) (n : Int) (h : St w ok g vals cls marks) (hf : FOk vals cls marks) (ht : TInv vals.length vals marks) (hn : n = (vals.length : Int) - 1) (hml : cls.map Prod.fst = ml)
    (hrl : Kd.C (Kd.slice 3 (Kd.int .i64)) w Al ml.length ml) (hcl : ml.length ≤ cl) (hrm : Kd.C k48 w Am marks.length marks) (hcm : marks.length ≤ cm) :
    Calls Try.prog 31 #[.pointer (some ⟨g, 0, none⟩), .agg #[.int .i64 n, .slice Al ml.length cl, .slice Am marks.length cm]] w fun e w' => e = .returned (.bool true) ∧ Below w.heap.size w w' := by
  have H := Aside0.mk h
  have HF := Aside0.mk hf
  have HT := Aside0.mk ht
  have HN := Aside0.mk hn
  have HML := Aside0.mk hml
  have HRL := Aside0.mk (And.intro hcl hrl)
  have HRM := Aside0.mk (And.intro hcm hrm)
  have hlen : ml.length ≤ 1048576 := by rw [← hml, List.length_map]; exact hf.fit.cap
  obtain ⟨k, e1, e2, e3⟩ : ∃ k, fulcrumlaw20_sameMarks.f k marks marks = some true ∧ fulcrumlaw20_sameClauses.f k ml ml = some true ∧ fulcrumref20_Level.f marks = some (lvl marks) := by
    obtain ⟨K1, q1⟩ := sameMarks_all marks (by have := hf.ml; omega)
    obtain ⟨K2, q2⟩ := sameClauses_all ml (by omega) (fun c hc => by rw [← hml] at hc; obtain ⟨x, hx, rfl⟩ := List.mem_map.1 hc; have := hf.cl x hx; omega)
    exact ⟨K1 + K2, q1 _ (by omega), q2 _ (by omega), Level_f marks (by have := hf.ml; omega)⟩
  have HE1 := Aside0.mk e1
  have HE2 := Aside0.mk e2
  have HE3 := Aside0.mk e3
  obtain ⟨y, hy⟩ : ∃ y, y = lvl marks := ⟨_, rfl⟩
  rw [← hy] at HE3
  have HY := Aside0.mk hy
  have hn0 : 0 ≤ n := by have := hf.fit.v.pos; omega
  have hn1 : n ≤ 262144 := by have := hf.fit.v.max; omega
  clear h hf ht hn hml hrl hcl hrm hcm e1 e2 e3 hy hlen
  go_enter Try.func31, Try.ntmps31
  go_wp2
  have b0 : (w.alloc (.cells #[.int .i64 n, .slice Al ml.length cl, .slice Am marks.length cm] 65)).cell? ⟨w.heap.size, 0, none⟩ = some (.int .i64 n) := by simp [go_sem]
  have b1 : (w.alloc (.cells #[.int .i64 n, .slice Al ml.length cl, .slice Am marks.length cm] 65)).cell? ⟨w.heap.size, 1, none⟩ = some (.slice Al ml.length cl) := by simp [go_sem]
  have b2 : (w.alloc (.cells #[.int .i64 n, .slice Al ml.length cl, .slice Am marks.length cm] 65)).cell? ⟨w.heap.size, 2, none⟩ = some (.slice Am marks.length cm) := by simp [go_sem]
  have hbw := below_alloc (Below.refl w.heap.size w) (.cells #[.int .i64 n, .slice Al ml.length cl, .slice Am marks.length cm] 65)
  have hsz : w.heap.size < (w.alloc (.cells #[.int .i64 n, .slice Al ml.length cl, .slice Am marks.length cm] 65)).heap.size := by simp
  obtain ⟨w1, hw1⟩ : ∃ w1, w1 = w.alloc (.cells #[.int .i64 n, .slice Al ml.length cl, .slice Am marks.length cm] 65) := ⟨_, rfl⟩
  rw [← hw1] at b0 b1 b2 hbw hsz ⊢
  have HB := Aside0.mk (And.intro hbw hsz)
  clear hw1 hbw hsz
  go_region_held3 (fun w' => w'.cell? ⟨w.heap.size, 0, none⟩ = some (.int .i64 n) ∧ w'.cell? ⟨w.heap.size, 1, none⟩ = some (.slice Al ml.length cl) ∧ w'.cell? ⟨w.heap.size, 2, none⟩ = some (.slice Am marks.length cm)) (go_keep)
    (first | (go_at_call 13; refine (st_Atoms ok g vals cls marks _ (H.out.below (by repeat (first | exact HB8.out | exact HB6.out | exact HB.out.1 | apply below_drew1 | apply pw_below_drewN)))).mono ?_; rw [← HN.out]; rintro e w' ⟨rfl, rfl⟩) | (go_at_call 14; refine (st_Level ok g vals cls marks _ (H.out.below (by repeat (first | exact HB8.out | exact HB6.out | exact HB.out.1 | apply below_drew1 | apply pw_below_drewN)))).mono ?_; rw [← HY.out]; rintro e w' ⟨rfl, ⟨nd, rfl⟩⟩) | (go_at_call 52; refine (fulcrumref20_Level.calls Am cm marks y _ (Kd.C_below HRM.out.2 (by repeat (first | exact HB8.out | exact HB6.out | exact HB.out.1 | apply below_drew1 | apply pw_below_drewN))) HRM.out.1 HE3.out).mono ?_; rintro e w' ⟨rfl, ⟨nd2, rfl⟩⟩) | (go_at_call 20; refine (st_Marks ok g vals cls marks _ (H.out.below (by repeat (first | exact HB8.out | exact HB6.out | exact HB.out.1 | apply below_drew1 | apply pw_below_drewN))) HF.out.ml).mono ?_; rintro e w6 ⟨v6, rfl, hv6, hb6⟩; obtain ⟨A6, c6, rfl⟩ := Kd.R_slice hv6; have H6 := Aside0.mk (And.intro (Kd.R_reads' hv6).2.1 (Kd.R_reads' hv6).2.2); have q0 : w6.cell? ⟨w.heap.size, 0, none⟩ = some (.int .i64 n) := (hb6.cell (by simpa using HB.out.2)).trans (by simpa using b0); have q1 : w6.cell? ⟨w.heap.size, 1, none⟩ = some (.slice Al ml.length cl) := (hb6.cell (by simpa using HB.out.2)).trans (by simpa using b1); have q2 : w6.cell? ⟨w.heap.size, 2, none⟩ = some (.slice Am marks.length cm) := (hb6.cell (by simpa using HB.out.2)).trans (by simpa using b2); have HZ6 : Aside0 (w.heap.size < w6.heap.size) := ⟨Nat.lt_of_lt_of_le HB.out.2 (by simpa using hb6.size)⟩; have HB6 := Aside0.mk (below_step (by repeat (first | exact HB8.out | exact HB6.out | exact HB.out.1 | apply below_drew1 | apply pw_below_drewN)) hb6); clear hv6 hb6) | (go_at_call 56; refine (fulcrumlaw20_sameMarks.calls k A6 c6 marks Am cm marks true _ (Kd.C_below H6.out.2 (by repeat (first | exact Below.refl _ _ | apply below_drew1 | apply pw_below_drewN))) H6.out.1 (Kd.C_below HRM.out.2 (by repeat (first | exact HB8.out | exact HB6.out | exact HB.out.1 | apply below_drew1 | apply pw_below_drewN))) HRM.out.1 HE1.out).mono ?_; rintro e w' ⟨rfl, ⟨nd3, rfl⟩⟩) | (go_at_call 19; refine (st_Clauses ok g vals cls marks _ (H.out.below (by repeat (first | exact HB8.out | exact HB6.out | exact HB.out.1 | apply below_drew1 | apply pw_below_drewN))) HF.out.fit.cap HF.out.cl).mono ?_; rintro e w8 ⟨v8, rfl, hv8, hb8⟩; rw [HML.out] at hv8; obtain ⟨A8, c8, rfl⟩ := Kd.R_slice hv8; have H8 := Aside0.mk (And.intro (Kd.R_reads' hv8).2.1 (Kd.R_reads' hv8).2.2); have r0 : w8.cell? ⟨w.heap.size, 0, none⟩ = some (.int .i64 n) := (hb8.cell (by simpa using HZ6.out)).trans (by simpa using q0); have r1 : w8.cell? ⟨w.heap.size, 1, none⟩ = some (.slice Al ml.length cl) := (hb8.cell (by simpa using HZ6.out)).trans (by simpa using q1); have r2 : w8.cell? ⟨w.heap.size, 2, none⟩ = some (.slice Am marks.length cm) := (hb8.cell (by simpa using HZ6.out)).trans (by simpa using q2); have HB8 := Aside0.mk (below_step (by repeat (first | exact HB8.out | exact HB6.out | exact HB.out.1 | apply below_drew1 | apply pw_below_drewN)) hb8); clear hv8 hb8) | (go_at_call 57; refine (fulcrumlaw20_sameClauses.calls k A8 c8 ml Al cl ml true _ (Kd.C_below H8.out.2 (by repeat (first | exact Below.refl _ _ | apply below_drew1 | apply pw_below_drewN))) H8.out.1 (Kd.C_below HRL.out.2 (by repeat (first | exact HB8.out | exact HB6.out | exact HB.out.1 | apply below_drew1 | apply pw_below_drewN))) HRL.out.1 HE2.out).mono ?_; rintro e w' ⟨rfl, ⟨nd4, rfl⟩⟩))
  go_wp2
  obtain ⟨N2, hN2⟩ : ∃ N2 : Nat, (N2 : Int) = n + 2 := ⟨(n + 2).toNat, by omega⟩
  go_loopg [5, 6, 7, 8] N2 (fun kq v5 v6 v7 v8 w' => ∃ i : Nat, v5 = .int .i64 (i : Int) ∧ i + kq = N2 ∧ Drawn0 w8 w')
  case atStart => exact ⟨0, rfl, by omega, by repeat (first | exact Drawn0.refl _ | apply Drawn0.step)⟩
  case round =>
    obtain ⟨i, rfl, hik, ⟨m, rfl⟩⟩ := hrel
    have HS := Aside0.mk (H.out.below (below_step HB8.out (pw_below_drewN (Below.refl w8.heap.size w8) m)))
    cases gk with
    | succ k1 =>
      have d0 : decide ((i : Int) ≤ n + 1) = true := decide_eq_true (by omega)
      by_cases h1 : (i : Int) < 1
      · have d1 : decide ((i : Int) < 1) = true := decide_eq_true h1
        go_wp2_with (first | (go_at_call 26; refine (st_Value_bad ok g vals cls marks (i : Int) _ HS.out (.inl h1)).mono ?_; rintro e w' ⟨rfl, rfl⟩))
        go_roundg k1
        case measure => omega
        case rel => exact ⟨i + 1, by go_num, by omega, by repeat (first | exact Drawn0.refl _ | apply Drawn0.step)⟩
      · have d1 : decide ((i : Int) < 1) = false := decide_eq_false h1
        by_cases h2 : n < (i : Int)
        · have d2 : decide (n < (i : Int)) = true := decide_eq_true h2
          have HV2 : Aside0 ((vals.length : Int) ≤ (i : Int)) := ⟨by have := HN.out; omega⟩
          go_wp2_with (first | (go_at_call 26; refine (st_Value_bad ok g vals cls marks (i : Int) _ HS.out (.inr HV2.out)).mono ?_; rintro e w' ⟨rfl, rfl⟩))
          go_roundg k1
          case measure => omega
          case rel => exact ⟨i + 1, by go_num, by omega, by repeat (first | exact Drawn0.refl _ | apply Drawn0.step)⟩
        · have d2 : decide (n < (i : Int)) = false := decide_eq_false h2
          have HV2 : Aside0 ((i : Int) < (vals.length : Int)) := ⟨by have := HN.out; omega⟩
          have HV1 : Aside0 (1 ≤ (i : Int)) := ⟨by omega⟩
          obtain ⟨kt, t1⟩ := (true_all marks (i : Int) (by have := HF.out.ml; omega)).rounds
          obtain ⟨kt', t2⟩ := (true_all marks (-(i : Int)) (by have := HF.out.ml; omega)).rounds
          have HT1 := Aside0.mk t1
          have HT2 := Aside0.mk t2
          have hnil : i ≤ 262144 := by omega
          have htl := HT.out.tells HF.out.fit.v HV1.out
          clear t1 t2 h1 h2
          rcases htl with ⟨e1, e2, e3⟩ | ⟨e1, e3, e2⟩ | ⟨e1, e3, e2⟩
          all_goals
            rw [e1] at HT1
            rw [e3] at HT2
            have HVE := Aside0.mk e2
            clear e1 e2 e3
            go_wp2_with (first | (go_at_call 26; refine (st_Value ok g vals cls marks (i : Int) _ HS.out HF.out.fit.v HV1.out HV2.out).mono ?_; rw [HVE.out]; rintro e w' ⟨rfl, ⟨nv, rfl⟩⟩))
            refine (fulcrumref20_True.calls kt Am cm marks (i : Int) _ _ (Kd.C_below HRM.out.2 (by repeat (first | exact HB8.out | apply below_drew1 | apply pw_below_drewN))) HRM.out.1 HT1.out).mono ?_
            rintro e w' ⟨rfl, ⟨nv2, rfl⟩⟩
            go_wp2_with fail
            refine (fulcrumref20_True.calls kt' Am cm marks (-(i : Int)) _ _ (Kd.C_below HRM.out.2 (by repeat (first | exact HB8.out | apply below_drew1 | apply pw_below_drewN))) HRM.out.1 HT2.out).mono ?_
            rintro e w' ⟨rfl, ⟨nv3, rfl⟩⟩
            go_wp2
            go_roundg k1
            case measure => omega
            case rel => exact ⟨i + 1, by go_num, by omega, by repeat (first | exact Drawn0.refl _ | apply Drawn0.step)⟩
    | zero =>
      have d0 : decide ((i : Int) ≤ n + 1) = false := decide_eq_false (by omega)
      go_wp2
      go_ret
      exact ⟨rfl, by repeat (first | exact HB8.out | apply below_drew1 | apply pw_below_drewN)⟩

end Go.Proofs.Ytegaaobiedfjcaa.PU
