import Derived.Test.YtocmldppefjbgaaUk1
import Derived.Test.YtocmldppefjbgaaHp13
import Derived.IntWalk
import Derived.Deep.RegionLaw
import Derived.Deep.QuietTactic
import Derived.BigQuiet
namespace Go.Proofs.Ytocmldppefjbgaa.PHU
open Go.RowKit Go.Proofs.YtocmldppefjbgaaW.PrintWords Go.Proofs.YtocmldppefjbgaaW.PrintLast Go.Proofs.YtocmldppefjbgaaW.PrintMore Go.Proofs.YtocmldppefjbgaaH
set_option linter.unusedVariables false
set_option linter.unusedSimpArgs false
open Go.Proofs.Ytocmldppefjbgaa.PHP (S92 k92 z92 rd_T92)
/-! ### the solver: what its readers read -/
def SVX (w : World) (s : Nat) (vals : List Int) : Prop := ∃ ok gs cls, w.cell? ⟨s, 0, none⟩ = some (.bool true) ∧ w.cell? ⟨s, 2, none⟩ = some (.pointer (some ⟨gs, 0, none⟩)) ∧ St w ok gs vals cls []
theorem sv_is (g : Nat) (vals : List Int) (w : World) (h : SVX w g vals) : Calls Try.prog 30 #[.pointer (some ⟨g, 0, none⟩)] w fun e w' => e = .returned (.bool true) ∧ w = w' := by
  obtain ⟨ok, gs, cls, c0, c2, hs⟩ := h
  clear c2 hs
  go_enter Try.func30, Try.ntmps30
  go_wp2
  go_ret
  exact ⟨rfl, rfl⟩
theorem sv_Atoms (g : Nat) (vals : List Int) (w : World) (h : SVX w g vals) : Calls Try.prog 10 #[.pointer (some ⟨g, 0, none⟩)] w fun e w' => e = .returned (.int .i64 ((vals.length : Int) - 1)) ∧ w = w' := by
  have H := Aside0.mk h
  obtain ⟨ok, gs, cls, c0, c2, hs⟩ := h
  have HS := Aside0.mk hs
  clear c0 hs
  go_enter Try.func10, Try.ntmps10
  go_wp2_with (first | (go_at_call 30; go_loud (refine (sv_is g vals w H.out).mono ?_; rintro e w' ⟨rfl, rfl⟩)) | (go_at_call 31; go_loud (refine (st_Atoms ok gs vals cls [] w HS.out).mono ?_; rintro e w' ⟨rfl, rfl⟩)))
  go_ret
  exact ⟨rfl, rfl⟩
set_option maxHeartbeats 1000000 in
theorem sv_literal (g : Nat) (vals : List Int) (l : Int) (w : World) (h : SVX w g vals) (hv : Vals vals) :
    Calls Try.prog 34 #[.pointer (some ⟨g, 0, none⟩), .int .i64 l] w fun e w' => e = .returned (.bool (litB ((vals.length : Int) - 1) l)) ∧ w = w' := by
  have H := Aside0.mk h
  have hm := hv.max
  have hp := hv.pos
  clear h hv
  obtain ⟨n, hn⟩ : ∃ n : Int, n = (vals.length : Int) - 1 := ⟨_, rfl⟩
  have hn0 : 0 ≤ n := by omega
  have hn1 : n ≤ 262144 := by omega
  have HN := Aside0.mk hn
  rw [← hn]
  clear hn hm hp
  have fin : ∀ b, litB n l = b → Aside0 (litB n l = b) := fun _ h => ⟨h⟩
  by_cases h0 : l = 0
  · have HF := fin false (by simp [litB, h0])
    rw [HF.out]
    have hb : (l != 0) = false := by simp [h0]
    clear h0 fin
    go_enter Try.func34, Try.ntmps34
    go_wp2
    go_ret
    exact ⟨rfl, rfl⟩
  · have hb : (l != 0) = true := by rw [bne_iff_ne]; exact h0
    by_cases h1 : l ≤ n
    · by_cases h2 : -n ≤ l
      · have HF := fin true (by simp [litB, h0, h1, h2])
        rw [HF.out]
        clear fin h0
        have hb1 : decide (l ≤ n) = true := decide_eq_true h1
        have hb2 : decide (-n ≤ l) = true := decide_eq_true h2
        go_enter Try.func34, Try.ntmps34
        go_wp2_with (first | (go_at_call 10; refine (sv_Atoms g vals _ H.out).mono ?_; rw [← HN.out]; rintro e w' ⟨rfl, rfl⟩))
        go_ret
        exact ⟨rfl, rfl⟩
      · have HF := fin false (by simp [litB, h2])
        rw [HF.out]
        clear fin h0
        have hb1 : decide (l ≤ n) = true := decide_eq_true h1
        have hb2 : decide (-n ≤ l) = false := decide_eq_false h2
        go_enter Try.func34, Try.ntmps34
        go_wp2_with (first | (go_at_call 10; refine (sv_Atoms g vals _ H.out).mono ?_; rw [← HN.out]; rintro e w' ⟨rfl, rfl⟩))
        go_ret
        exact ⟨rfl, rfl⟩
    · have HF := fin false (by simp [litB, h1])
      rw [HF.out]
      clear fin h0
      have hb1 : decide (l ≤ n) = false := decide_eq_false h1
      go_enter Try.func34, Try.ntmps34
      go_wp2_with (first | (go_at_call 10; refine (sv_Atoms g vals _ H.out).mono ?_; rw [← HN.out]; rintro e w' ⟨rfl, rfl⟩))
      go_ret
      exact ⟨rfl, rfl⟩
set_option maxHeartbeats 1000000 in
theorem sv_lam (g B : Nat) (vals : List Int) (l : Int) (w : World) (h : SVX w g vals) (hv : Vals vals) (hB : w.cell? ⟨B, 0, none⟩ = some (.pointer (some ⟨g, 0, none⟩))) :
    Calls Try.prog 33 #[.int .i64 l, .pointer (some ⟨B, 0, none⟩)] w fun e w' => e = .returned (.bool (!(litB ((vals.length : Int) - 1) l))) ∧ w = w' := by
  have H := Aside0.mk h
  have HV := Aside0.mk hv
  obtain ⟨b, hb⟩ : ∃ b, b = litB ((vals.length : Int) - 1) l := ⟨_, rfl⟩
  rw [← hb]
  have HBB := Aside0.mk hb
  clear h hv hb
  go_enter Try.func33, Try.ntmps33
  go_wp2_with (first | (go_at_call 34; refine (sv_literal g vals l _ H.out HV.out).mono ?_; rw [← HBB.out]; rintro e w' ⟨rfl, rfl⟩))
  go_ret
  exact ⟨rfl, rfl⟩
set_option maxHeartbeats 1000000 in
theorem sv_IndexF (g B : Nat) (vals : List Int) (A0 : Option Addr) (c0 : Nat) (l0 : List Int) (w : World) (hr0 : Kd.C (Kd.int .i64) w A0 l0.length l0) (h : SVX w g vals) (hv : Vals vals) (hB : w.cell? ⟨B, 0, none⟩ = some (.pointer (some ⟨g, 0, none⟩))) :
    Calls Try.prog 52 #[.slice A0 l0.length c0, .func (.func 33) #[] #[.pointer (some ⟨B, 0, none⟩)]] w fun e w' => ∃ r : Int, e = .returned (.int .i64 r) ∧ decide (0 ≤ r) = l0.any (fun l => !(litB ((vals.length : Int) - 1) l)) ∧ w = w' := by
  have HR := Aside0.mk hr0
  have H := Aside0.mk h
  have HV := Aside0.mk hv
  have HBB := Aside0.mk hB
  have hmax := Kd.C_max hr0
  clear hr0 h hv hB
  obtain ⟨p, hp⟩ : ∃ p : Int → Bool, p = fun l => !(litB ((vals.length : Int) - 1) l) := ⟨_, rfl⟩
  have HLAM : Aside0 (∀ (x : Int), Calls Try.prog 33 #[.int .i64 x, .pointer (some ⟨B, 0, none⟩)] w fun e w' => e = .returned (.bool (p x)) ∧ w = w') := ⟨fun x => by rw [hp]; exact sv_lam g B vals x w H.out HV.out HBB.out⟩
  rw [← hp]
  clear hp
  go_enter Try.func52, Try.ntmps52
  go_wp2
  go_loopg [8] l0.length (fun kq v8 w' => ∃ i : Nat, v8 = .int .i64 i ∧ i + kq = l0.length ∧ Aside0 ((l0.take i).any p = false) ∧ w = w')
  case atStart => exact ⟨0, rfl, by omega, ⟨by simp⟩, rfl⟩
  case round =>
    obtain ⟨i, rfl, hik, HN, rfl⟩ := hrel
    cases gk with
    | succ k1 =>
      have hlt : i < l0.length := by omega
      obtain ⟨ad, rfl, hx⟩ := Kd.at_int HR.out (i : Int) (by omega) (by omega)
      rw [Int.toNat_natCast] at hx
      have hsn : (l0.take (i + 1)).any p = p (rd l0 (i : Int)) := by
        rw [List.take_succ_eq_append_getElem hlt, List.any_append, HN.out]
        simp [rd, List.getD_eq_getElem?_getD, List.getElem?_eq_getElem hlt]
      have hall : l0.any p = ((l0.take (i + 1)).any p || (l0.drop (i + 1)).any p) := by rw [← List.any_append, List.take_append_drop]
      cases hpx : p (rd l0 (i : Int)) with
      | true =>
        have HP := Aside0.mk hpx
        have HALL : Aside0 (l0.any p = true) := ⟨by rw [hall, hsn, hpx]; simp⟩
        clear hsn hall hpx
        go_wp2_with (first | (go_at_call 33; refine (HLAM.out _).mono ?_; rw [HP.out]; rintro e w' ⟨rfl, rfl⟩))
        go_ret
        exact ⟨_, rfl, by rw [HALL.out]; simp, rfl⟩
      | false =>
        have HP := Aside0.mk hpx
        have HN1 : Aside0 ((l0.take (i + 1)).any p = false) := ⟨by rw [hsn, hpx]⟩
        clear hsn hall hpx
        go_wp2_with (first | (go_at_call 33; refine (HLAM.out _).mono ?_; rw [HP.out]; rintro e w' ⟨rfl, rfl⟩))
        go_roundg k1
        case measure => omega
        case rel => exact ⟨i + 1, by go_num, by omega, HN1, rfl⟩
    | zero =>
      have hie : i = l0.length := by omega
      subst hie
      rw [List.take_length] at HN
      go_wp2
      go_ret
      exact ⟨_, rfl, by rw [HN.out]; rfl, rfl⟩
set_option maxHeartbeats 1000000 in
theorem sv_ContainsF (g B : Nat) (vals : List Int) (A0 : Option Addr) (c0 : Nat) (l0 : List Int) (w : World) (hr0 : Kd.C (Kd.int .i64) w A0 l0.length l0) (h : SVX w g vals) (hv : Vals vals) (hB : w.cell? ⟨B, 0, none⟩ = some (.pointer (some ⟨g, 0, none⟩))) :
    Calls Try.prog 32 #[.slice A0 l0.length c0, .func (.func 33) #[] #[.pointer (some ⟨B, 0, none⟩)]] w fun e w' => e = .returned (.bool (l0.any (fun l => !(litB ((vals.length : Int) - 1) l)))) ∧ w = w' := by
  have HC := Aside0.mk (sv_IndexF g B vals A0 c0 l0 w hr0 h hv hB)
  obtain ⟨q, hq⟩ : ∃ q, q = l0.any (fun l => !(litB ((vals.length : Int) - 1) l)) := ⟨_, rfl⟩
  rw [← hq] at HC ⊢
  clear hr0 h hv hB hq
  go_enter Try.func32, Try.ntmps32
  go_wp2_with (first | (go_at_call 52; refine HC.out.mono ?_; rintro e w' ⟨r, rfl, hr, rfl⟩; subst hr))
  go_ret
  exact ⟨rfl, rfl⟩

open Go.Proofs.Ytocmldppefjbgaa.PHP (S92 k92 z92 rd_T92)
/-! ### fill -/
theorem rest_of {w w' : World} {ok : Nat → Prop} (h : PHP.Rest w w' ok) : Rest w w' ok := ⟨h.os, h.tape, h.output, h.size, h.block⟩
set_option maxRecDepth 100000 in
set_option maxHeartbeats 4000000 in
theorem sv_fill (s gs m : Nat) (vals : List Int) (cls : List (List Int × Int × Int)) (okS : Nat → Prop) (cur : Array Value) (w : World) (hb : w.heap[s]? = some (.cells cur 63 (0, 0))) (h2 : cur[2]? = some (.pointer (some ⟨gs, 0, none⟩))) (h3 : ∃ v, cur[3]? = some v) (hs : St w okS gs vals cls []) (hns : ¬ okS s) (hm : vals.length = m + 1) (hm2 : m ≤ 262144) :
    Calls Try.prog 28 #[.pointer (some ⟨s, 0, none⟩)] w fun e w' => e = .returned (.tuple #[]) ∧ ∃ g2, w'.heap[s]? = some (.cells (cur.setIfInBounds 3 (.pointer (some ⟨g2, 0, none⟩))) 63 (0, 0)) ∧ Rest w w' (fun k => k = s) := by
  obtain ⟨v3, hv3⟩ := h3
  have c2 := (blk_cell hb 2).trans h2
  have HAT : Aside0 ((vals.length : Int) - 1 = (m : Int)) := ⟨by omega⟩
  have HSZ : Aside0 (3 < cur.size) := ⟨(Array.getElem?_eq_some_iff.1 hv3).1⟩
  have H := Aside0.mk (And.intro hb (And.intro h2 (And.intro hs (And.intro hns (And.intro hm hm2)))))
  clear hb h2 hs hns hm hm2
  go_enter Try.func28, Try.ntmps28
  go_upto_region 1 with (first
    | (go_at_call 31; go_loud (refine (st_Atoms okS gs vals cls [] w H.out.2.2.1).mono ?_; rw [HAT.out]; rintro e w' ⟨rfl, rfl⟩))
    | (go_at_call 15; go_loud (refine (PHP.hs_New m w (by have := H.out.2.2.2.2.2; omega)).mono ?_; rintro e w2 ⟨g2, rfl, hst, hbb⟩; have hb2 := (hbb.block s (blk_lt H.out.1)).trans H.out.1; have c3 := (blk_cell hb2 3).trans hv3; have f3 := blk_frozen hb2 3; have H2 := Aside0.mk (And.intro hst (And.intro hbb hb2)); clear hst hbb hb2)))
  obtain ⟨w3, hw3⟩ : ∃ w', w' = w2.setCell ⟨s, 3, none⟩ (.pointer (some ⟨g2, 0, none⟩)) := ⟨_, rfl⟩
  have hx3 : w3.heap[s]? = some (.cells (cur.setIfInBounds 3 (.pointer (some ⟨g2, 0, none⟩))) 63 (0, 0)) := by rw [hw3]; exact blk_set H2.out.2.2 3 _
  have hr3 : Rest w w3 (fun k => k = s) := by rw [hw3]; exact (Rest.of_below H2.out.2.1 (fun k => k = s)).set (p := ⟨s, 3, none⟩) rfl _
  have hh3 : PHP.HS w3 (fun k => w.heap.size ≤ k) g2 m [] (List.replicate m 0) PHP.one := by rw [hw3]; exact H2.out.1.step (fun k hk _ => Below.heap_setCell w2 ⟨s, 3, none⟩ _ k (by have := blk_lt H.out.1; dsimp only; omega))
  have HX3 := Aside0.mk (And.intro hx3 (And.intro hr3 hh3))
  rw [← hw3]
  clear hw3 hx3 hr3 hh3 c2 c3 f3 hv3
  have HST3 : Aside0 (St w3 okS gs vals cls []) := ⟨H.out.2.2.1.step (fun k hk hlt => HX3.out.2.1.block k hlt (fun e => H.out.2.2.2.1 (e ▸ hk)))⟩
  have c2 : w3.cell? ⟨s, 2, none⟩ = some (.pointer (some ⟨gs, 0, none⟩)) := by
    rw [blk_cell HX3.out.1 2, Array.getElem?_setIfInBounds_ne (by omega)]
    exact H.out.2.1
  go_upto_region 2 with (first
    | (go_at_call 31; go_loud (refine (st_Atoms okS gs vals cls [] w3 HST3.out).mono ?_; rw [HAT.out]; rintro e w' ⟨rfl, rfl⟩)))
  go_loopg [20, 2] m (fun kq v20 v2 w' => ∃ i : Nat, v20 = .int .i64 (i : Int) ∧ Aside0 (i + kq = m) ∧ Aside0 (w'.heap[s]? = some (.cells (cur.setIfInBounds 3 (.pointer (some ⟨g2, 0, none⟩))) 63 (0, 0)) ∧ Rest w w' (fun k => k = s) ∧ ∃ l sc st, PHP.HS w' (fun k => w.heap.size ≤ k) g2 m l sc st))
  case atStart => exact ⟨0, rfl, ⟨by omega⟩, ⟨HX3.out.1, HX3.out.2.1, _, _, _, HX3.out.2.2⟩⟩
  case round =>
    obtain ⟨i, rfl, HIK, HJ⟩ := hrel
    have hm2 : m ≤ 262144 := H.out.2.2.2.2.2
    cases gk with
    | zero =>
      have hi : ¬ ((i : Int) < (m : Int)) := by have := HIK.out; omega
      go_wp2
      go_end0
      exact ⟨rfl, ⟨g2, HJ.out.1⟩, HJ.out.2.1⟩
    | succ k2 =>
      have hi : (i : Int) < (m : Int) := by have := HIK.out; omega
      have hi0 : (0 : Int) ≤ (i : Int) := by omega
      have c3 : wr.cell? ⟨s, 3, none⟩ = some (.pointer (some ⟨g2, 0, none⟩)) := by
        rw [blk_cell HJ.out.1 3]
        simp [HSZ.out]
      go_wp2_with (go_at_call 39; go_loud (obtain ⟨l, sc, st, hh⟩ := HJ.out.2.2; refine (PHP.hs_PushR (i : Int) hh).mono ?_; rintro e w4 ⟨r, l', rfl, a1, a2⟩; have H4 := Aside0.mk (And.intro a1 a2); clear a1 a2 hh c3))
      go_roundg k2
      case measure => omega
      case rel =>
        have hlt := blk_lt HJ.out.1
        have hsl := blk_lt H.out.1
        have hsz := HJ.out.2.1.size
        refine ⟨i + 1, by go_num, ⟨by have := HIK.out; omega⟩, ⟨(H4.out.2.block s hlt (by omega)).trans HJ.out.1, HJ.out.2.1.trans (rest_of H4.out.2) (fun k hk q => absurd hk (Nat.not_lt.2 q)), _, _, _, H4.out.1.mono (fun k q => q.elim id (fun q => Nat.le_trans hsz q))⟩⟩

end Go.Proofs.Ytocmldppefjbgaa.PHU
