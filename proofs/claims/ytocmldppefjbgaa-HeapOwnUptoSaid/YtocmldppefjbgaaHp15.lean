import Derived.Test.YtocmldppefjbgaaHp14
import Derived.Test.YtocmldppefjbgaaPHPx6
import Derived.BigQuiet
import Derived.Deep.QuietTactic
namespace Go.Proofs.Ytocmldppefjbgaa.PHP
open Go.RowKit Go.Proofs.YtocmldppefjbgaaW.PrintWords Go.Proofs.YtocmldppefjbgaaW.PrintLast Go.Proofs.YtocmldppefjbgaaW.PrintMore Go.Proofs.YtocmldppefjbgaaH
set_option linter.unusedVariables false
set_option linter.unusedSimpArgs false
/-! ### HeapSorts -/
theorem addr_at (g i : Nat) : ((⟨g, 0, none⟩ : Addr).add i) = ⟨g, i, none⟩ := by unfold Addr.add; split <;> simp_all
theorem same_len {a b : List Int} (ha : a.Nodup) (hb : b.Nodup) (h : ∀ v, v ∈ a ↔ v ∈ b) : a.length = b.length := by
  have key : ∀ {l r : List Int}, l.Nodup → (∀ x ∈ l, x ∈ r) → l.length ≤ r.length := by
    intro l
    induction l with
    | nil => intro r _ _; exact Nat.zero_le _
    | cons x t ih =>
      intro r hn hs
      obtain ⟨h1, h2⟩ := List.nodup_cons.1 hn
      have hx := hs x List.mem_cons_self
      have := ih (r := r.erase x) h2 (fun y hy => (List.mem_erase_of_ne (by intro e; subst e; exact h1 hy)).2 (hs y (List.mem_cons_of_mem _ hy)))
      rw [List.length_erase_of_mem hx] at this
      have := List.length_pos_of_mem hx
      simp only [List.length_cons]
      omega
  exact Nat.le_antisymm (key ha (fun x hx => (h x).1 hx)) (key hb (fun x hx => (h x).2 hx))
theorem sorted_nodup {sc : List Nat} {o : List Int} (h : o.Pairwise (fun x y => ah sc x y = true)) : o.Nodup :=
  h.imp (fun {a b} hab e => by subst e; exact ah_irr hab)
theorem ord_gt {x y : Nat} (hx : x < inf) (hy : y < inf) : (FloatKind.f64.format.order x y == some Ordering.gt) = decide (y < x) := by
  have e : FloatKind.f64.format.order x y = some (compareOfLessAndEq x y) := order_words hx hy
  rw [e]
  unfold compareOfLessAndEq
  by_cases h1 : x < y
  · have : ¬ y < x := by omega
    simp [h1, this]
  · by_cases h2 : x = y
    · simp [h2]
    · have : y < x := by omega
      simp [h1, h2, this]
theorem ord_eq {x y : Nat} (hx : x < inf) (hy : y < inf) : (FloatKind.f64.format.order x y == some Ordering.eq) = decide (x = y) := by
  have e : FloatKind.f64.format.order x y = some (compareOfLessAndEq x y) := order_words hx hy
  rw [e]
  unfold compareOfLessAndEq
  by_cases h1 : x < y
  · have : x ≠ y := by omega
    simp [h1, this]
  · by_cases h2 : x = y
    · simp [h2]
    · simp [h1, h2]
set_option maxRecDepth 100000 in
set_option maxHeartbeats 8000000 in
theorem hl_sorts (n : Int) (A : Option Addr) (c : Nat) (xs : List (Int × Int × Int)) (w : World) (hC : Kd.C kAct w A xs.length xs) (hl : xs.length ≤ 4194304) : Calls Try.prog 7 #[.int .i64 n, .slice A xs.length c] w fun e w' => e = .returned (.bool true) ∧ Below w.heap.size w w' := by
  by_cases h0 : n < 0
  · clear hC
    go_enter Try.func7, Try.ntmps7
    go_wp2_with (first
      | (go_at_call 19; go_loud (refine (hl_play_low n A c xs.length w h0).mono ?_; rintro e w1 ⟨rfl, rfl⟩))
      | (go_at_call 14; go_loud (refine (hl_lives w).mono ?_; rintro e w1 ⟨rfl, hb⟩; have H1 := Aside0.mk hb; clear hb)))
    go_ret
    exact ⟨rfl, H1.out⟩
  by_cases h1 : 1048576 < n
  · clear hC
    have d0 : decide (n < 0) = false := decide_eq_false h0
    go_enter Try.func7, Try.ntmps7
    go_wp2_with (first
      | (go_at_call 19; go_loud (refine (hl_play_high n A c xs.length w h1).mono ?_; rintro e w1 ⟨rfl, rfl⟩))
      | (go_at_call 14; go_loud (refine (hl_lives w).mono ?_; rintro e w1 ⟨rfl, hb⟩; have H1 := Aside0.mk hb; clear hb)))
    go_ret
    exact ⟨rfl, H1.out⟩
  obtain ⟨m, rfl⟩ := Int.eq_ofNat_of_zero_le (show 0 ≤ n by omega)
  have hm : m ≤ 1048576 := by omega
  have HM := Aside0.mk hm
  have HC := Aside0.mk hC
  have HL := Aside0.mk hl
  have d0 : decide ((m : Int) < 0) = false := decide_eq_false h0
  have d1 : decide (1048576 < (m : Int)) = false := decide_eq_false h1
  have d2 : ¬ (1048576 < m) := by omega
  clear h0 h1 hm hC hl
  go_enter Try.func7, Try.ntmps7
  go_upto_region 7 with (first
      | (go_at_call 19; go_loud (refine (hl_play m A c xs w HM.out HC.out HL.out).mono ?_; rintro e w1 ⟨g, l, sc, st, rfl, hs, hb⟩; have H1 := Aside0.mk (And.intro hs hb); clear hs hb))
      | (go_at_call 14; go_loud (refine (hl_lives w1).mono ?_; rintro e w2 ⟨rfl, hb⟩; have H2 := Aside0.mk (And.intro (H1.out.1.below hb).bound (below_step H1.out.2 hb)); clear hb))
      | (go_at_call 20; go_loud (refine (hs_Order H2.out.1).mono ?_; rintro e w3 ⟨Ao, co, o, rfl, ho, hpw, hmm, hb⟩; have H3 := Aside0.mk (And.intro (H2.out.1.below hb) (And.intro (below_step H2.out.2 hb) (And.intro (Kd.R_bound ho) (And.intro hpw hmm)))); clear ho hpw hmm hb)))
  obtain ⟨N, hN⟩ : ∃ N, N = l.length := ⟨_, rfl⟩
  have HN : Aside0 (o.length = N ∧ l.length = N ∧ N ≤ 1048576) := ⟨(same_len (sorted_nodup H3.out.2.2.2.1) H3.out.1.nodup H3.out.2.2.2.2).trans hN.symm, hN.symm, by have := H3.out.1.le; have := HM.out; omega⟩
  rw [HN.out.1]
  have hNN : N ≤ 1048576 := HN.out.2.2
  clear hN
  go_upto_region 13 with (go_at_call 18; go_loud (refine (hs_Len H3.out.1).mono ?_; rw [HN.out.2.1]; rintro e w4 ⟨rfl, rfl⟩))
  go_loopg [10, 8, 9, 11, 12, 13, 14, 15, 16] N (fun kq v10 v8 v9 v11 v12 v13 v14 v15 v16 w' => ∃ (i : Nat) (last : Int) (was : Nat) (li : List Int), v10 = .int .i64 (i : Int) ∧ v8 = .int .i64 last ∧ v9 = .float .f64 was ∧ Aside0 (i + kq = N) ∧ Aside0 (was < inf ∧ (0 < i → last = gI o (i - 1) ∧ was = gW sc last)) ∧ Aside0 (HS w' (fun k => w.heap.size ≤ k ∧ k < w2.heap.size) g m li sc st ∧ (∀ v, v ∈ li ↔ v ∈ o.drop i) ∧ li.length = N - i) ∧ Aside0 (Rest w3 w' (fun k => w.heap.size ≤ k ∧ k < w2.heap.size)))
  case atStart => exact ⟨0, _, _, l, rfl, rfl, rfl, ⟨by omega⟩, ⟨by decide, fun q => absurd q (Nat.lt_irrefl 0)⟩, ⟨H3.out.1, fun v => by rw [List.drop_zero]; exact (H3.out.2.2.2.2 v).symm, HN.out.2.1⟩, ⟨Rest.refl _ _⟩⟩
  case round =>
    obtain ⟨i, last, was, li, rfl, rfl, rfl, HIK, HLW, HJ, HR⟩ := hrel
    cases gk with
    | zero =>
      have hi : ¬ ((i : Int) < (N : Int)) := by have := HIK.out; omega
      have hli : li = [] := List.length_eq_zero_iff.1 (by rw [HJ.out.2.2]; have := HIK.out; omega)
      subst hli
      have HB := Aside0.mk (HR.out.below H3.out.2.1 (fun _ q => q.1))
      go_wp2_with (go_at_call 25; go_loud (refine (hs_Pop_no HJ.out.1).mono ?_; rintro e w4 ⟨rfl, rfl⟩))
      go_ret
      exact ⟨rfl, HB.out⟩
    | succ k2 =>
      have hi1 : (i : Int) < (N : Int) := by have := HIK.out; omega
      have hi0 : (0 : Int) ≤ (i : Int) := by omega
      have hio : i < o.length := by have := HN.out.1; omega
      obtain ⟨x, hx⟩ : ∃ x, x = gI o i := ⟨_, rfl⟩
      obtain ⟨s, hs⟩ : ∃ s, s = gW sc x := ⟨_, rfl⟩
      have hdrop : o.drop i = x :: o.drop (i + 1) := by rw [List.drop_eq_getElem_cons hio, hx]; congr 1; exact (gI_of (List.getElem?_eq_getElem hio)).symm
      have hpd : (x :: o.drop (i + 1)).Pairwise (fun x y => ah sc x y = true) := by rw [← hdrop]; exact H3.out.2.2.2.1.drop
      have HLN : Aside0 (0 < li.length) := ⟨by rw [HJ.out.2.2]; omega⟩
      have HX0 : Aside0 (gI li 0 = x) := ⟨sorted_top HJ.out.1.hp HLN.out hpd (fun v => by rw [HJ.out.2.1 v, hdrop])⟩
      have hxm : x ∈ li := by rw [← HX0.out]; exact gI_mem HLN.out
      have HXR := Aside0.mk (HJ.out.1.rng x hxm)
      have HSI : Aside0 (s < inf) := ⟨by rw [hs]; exact gW_lt HJ.out.1.fin x⟩
      have HSX := Aside0.mk hs
      have HXE := Aside0.mk hx
      have HMM : Aside0 (∀ l5 : List Int, (∀ v, v ∈ l5 ↔ v ∈ li ∧ v ≠ x) → ∀ v, v ∈ l5 ↔ v ∈ o.drop (i + 1)) := ⟨fun l5 h5 v => by
        rw [h5 v, HJ.out.2.1 v, hdrop]
        have hn := (List.nodup_cons.1 (sorted_nodup hpd)).1
        constructor
        · rintro ⟨q1, q2⟩
          exact (List.mem_cons.1 q1).elim (fun e => absurd e q2) id
        · intro q1
          exact ⟨List.mem_cons_of_mem _ q1, fun e => hn (e ▸ q1)⟩⟩
      obtain ⟨go, co', e, hq⟩ : ∃ go cc, Value.slice Ao o.length co = .slice (some ⟨go, 0, none⟩) o.length cc ∧ (w2.heap.size ≤ go ∧ go < w3.heap.size ∧ w3.cell? ⟨go, i, none⟩ = some (.int .i64 x)) := by
        have ho := Kd.own_of_R H3.out.2.2.1
        obtain ⟨go, cc, e, h1, h2, h3⟩ := Kd.R_form H3.out.2.2.1 (by omega)
        refine ⟨go, cc, e, h1, h2, ?_⟩
        have := ho.cells (g := go) (by rw [e]; rfl) i (.int .i64 x) (by rw [hx]; simp [encs, gI_some hio])
        rwa [addr_at] at this
      simp only [Value.slice.injEq] at e
      have eA := e.1
      have HQC : Aside0 (∀ W : World, Rest w3 W (fun k => w.heap.size ≤ k ∧ k < w2.heap.size) → W.cell? ⟨go, i, none⟩ = some (.int .i64 x)) := ⟨fun W hW => (World.cell?_of_block (a := ⟨go, i, none⟩) (hW.block go hq.2.1 (fun q => absurd q.2 (Nat.not_lt.2 hq.1)))).trans hq.2.2⟩
      obtain ⟨aa, haa⟩ : ∃ a, a = N - 1 := ⟨_, rfl⟩
      obtain ⟨qq, hqq⟩ : ∃ q, q = N - 1 - i := ⟨_, rfl⟩
      have HEQ : Aside0 (i + (k2 + 1) = N ∧ qq = N - 1 - i ∧ li.length = N - i) := ⟨⟨HIK.out, hqq, HJ.out.2.2⟩⟩
      have hwa : wrap64 ((N : Int) - 1) = (aa : Int) := by unfold wrap64; omega
      have hwa' : IntKind.i64.wrap ((N : Int) - 1) = (aa : Int) := by rw [IntWalk.i64_in _ (by omega)]; omega
      have hwq : wrap64 ((aa : Int) - (i : Int)) = (qq : Int) := by unfold wrap64; omega
      have hwq' : IntKind.i64.wrap ((aa : Int) - (i : Int)) = (qq : Int) := by rw [IntWalk.i64_in _ (by omega)]; omega
      subst eA
      by_cases hz : i = 0
      · have dz : decide ((0 : Int) < (i : Int)) = false := decide_eq_false (by omega)
        have dz2 : decide (0 < i) = false := decide_eq_false (by omega)
        clear hx hs hdrop hpd hxm hio hq haa hqq e hz
        go_wp2_with (first
          | (go_at_call 24; go_loud (refine (hs_Top HJ.out.1 HLN.out).mono ?_; rw [HX0.out]; rintro e w4 ⟨rfl, rfl⟩))
          | (go_at_call 25; go_loud (refine (hs_Pop HJ.out.1 HLN.out).mono ?_; rw [HX0.out]; rintro e w5 ⟨l5, rfl, a1, a2, a3, a4⟩; have q1 := HQC.out w5 (HR.out.trans a4 (fun _ _ z => z)); have HNM : Aside0 (decide (x ∈ l5) = false) := ⟨decide_eq_false (fun z => ((a2 x).1 z).2 rfl)⟩; have HL5 : Aside0 (l5.length = qq) := ⟨by have := HEQ.out; omega⟩; have H5 := Aside0.mk (And.intro a1 (And.intro a2 (HR.out.trans a4 (fun _ _ z => z)))); clear a1 a2 a3 a4))
          | (go_at_call 22; go_loud (refine (hs_Score x H5.out.1 HXR.out.1 HXR.out.2).mono ?_; rw [← HSX.out]; rintro e w6 ⟨rfl, rfl⟩))
          | (go_at_call 26; go_loud (refine (hs_Has x H5.out.1).mono ?_; rw [HNM.out]; rintro e w6 ⟨rfl, rfl⟩))
          | (go_at_call 18; go_loud (refine (hs_Len H5.out.1).mono ?_; rw [HL5.out]; rintro e w6 ⟨rfl, rfl⟩)))
        go_roundg k2
        case measure => omega
        case rel => exact ⟨i + 1, x, s, l5, by go_num, rfl, rfl, ⟨by have := HEQ.out; omega⟩, ⟨HSI.out, fun _ => ⟨by rw [Nat.add_sub_cancel]; exact HXE.out, HSX.out⟩⟩, ⟨H5.out.1, HMM.out l5 H5.out.2.1, by rw [HL5.out]; have := HEQ.out; omega⟩, ⟨H5.out.2.2⟩⟩
      · have dz : decide ((0 : Int) < (i : Int)) = true := decide_eq_true (by omega)
        have dz2 : decide (0 < i) = true := decide_eq_true (by omega)
        obtain ⟨hlast, hwas⟩ := HLW.out.2 (by omega)
        have hah : ah sc last x = true := by
          have hp := H3.out.2.2.2.1
          rw [List.pairwise_iff_getElem] at hp
          have := hp (i - 1) i (by omega) hio (by omega)
          rw [hlast, hx, gI_of (List.getElem?_eq_getElem (show i - 1 < o.length by omega)), gI_of (List.getElem?_eq_getElem hio)]
          exact this
        rw [ah_iff, ← hwas, ← hs] at hah
        have e1 := ord_gt HSI.out HLW.out.1
        rw [decide_eq_false (show ¬ was < s by omega)] at e1
        have e2 := ord_eq HSI.out HLW.out.1
        by_cases hsw : s = was
        · rw [decide_eq_true hsw] at e2
          have dle : decide (x ≤ last) = false := decide_eq_false (by omega)
          clear hx hs hdrop hpd hxm hio hq haa hqq e hz hah hlast hwas hsw
          go_wp2_with (first
            | (go_at_call 24; go_loud (refine (hs_Top HJ.out.1 HLN.out).mono ?_; rw [HX0.out]; rintro e w4 ⟨rfl, rfl⟩))
            | (go_at_call 25; go_loud (refine (hs_Pop HJ.out.1 HLN.out).mono ?_; rw [HX0.out]; rintro e w5 ⟨l5, rfl, a1, a2, a3, a4⟩; have q1 := HQC.out w5 (HR.out.trans a4 (fun _ _ z => z)); have HNM : Aside0 (decide (x ∈ l5) = false) := ⟨decide_eq_false (fun z => ((a2 x).1 z).2 rfl)⟩; have HL5 : Aside0 (l5.length = qq) := ⟨by have := HEQ.out; omega⟩; have H5 := Aside0.mk (And.intro a1 (And.intro a2 (HR.out.trans a4 (fun _ _ z => z)))); clear a1 a2 a3 a4))
            | (go_at_call 22; go_loud (refine (hs_Score x H5.out.1 HXR.out.1 HXR.out.2).mono ?_; rw [← HSX.out]; rintro e w6 ⟨rfl, rfl⟩))
            | (go_at_call 26; go_loud (refine (hs_Has x H5.out.1).mono ?_; rw [HNM.out]; rintro e w6 ⟨rfl, rfl⟩))
            | (go_at_call 18; go_loud (refine (hs_Len H5.out.1).mono ?_; rw [HL5.out]; rintro e w6 ⟨rfl, rfl⟩)))
          go_roundg k2
          case measure => omega
          case rel => exact ⟨i + 1, x, s, l5, by go_num, rfl, rfl, ⟨by have := HEQ.out; omega⟩, ⟨HSI.out, fun _ => ⟨by rw [Nat.add_sub_cancel]; exact HXE.out, HSX.out⟩⟩, ⟨H5.out.1, HMM.out l5 H5.out.2.1, by rw [HL5.out]; have := HEQ.out; omega⟩, ⟨H5.out.2.2⟩⟩
        · rw [decide_eq_false hsw] at e2
          clear hx hs hdrop hpd hxm hio hq haa hqq e hz hah hlast hwas hsw
          go_wp2_with (first
            | (go_at_call 24; go_loud (refine (hs_Top HJ.out.1 HLN.out).mono ?_; rw [HX0.out]; rintro e w4 ⟨rfl, rfl⟩))
            | (go_at_call 25; go_loud (refine (hs_Pop HJ.out.1 HLN.out).mono ?_; rw [HX0.out]; rintro e w5 ⟨l5, rfl, a1, a2, a3, a4⟩; have q1 := HQC.out w5 (HR.out.trans a4 (fun _ _ z => z)); have HNM : Aside0 (decide (x ∈ l5) = false) := ⟨decide_eq_false (fun z => ((a2 x).1 z).2 rfl)⟩; have HL5 : Aside0 (l5.length = qq) := ⟨by have := HEQ.out; omega⟩; have H5 := Aside0.mk (And.intro a1 (And.intro a2 (HR.out.trans a4 (fun _ _ z => z)))); clear a1 a2 a3 a4))
            | (go_at_call 22; go_loud (refine (hs_Score x H5.out.1 HXR.out.1 HXR.out.2).mono ?_; rw [← HSX.out]; rintro e w6 ⟨rfl, rfl⟩))
            | (go_at_call 26; go_loud (refine (hs_Has x H5.out.1).mono ?_; rw [HNM.out]; rintro e w6 ⟨rfl, rfl⟩))
            | (go_at_call 18; go_loud (refine (hs_Len H5.out.1).mono ?_; rw [HL5.out]; rintro e w6 ⟨rfl, rfl⟩)))
          go_roundg k2
          case measure => omega
          case rel => exact ⟨i + 1, x, s, l5, by go_num, rfl, rfl, ⟨by have := HEQ.out; omega⟩, ⟨HSI.out, fun _ => ⟨by rw [Nat.add_sub_cancel]; exact HXE.out, HSX.out⟩⟩, ⟨H5.out.1, HMM.out l5 H5.out.2.1, by rw [HL5.out]; have := HEQ.out; omega⟩, ⟨H5.out.2.2⟩⟩

end Go.Proofs.Ytocmldppefjbgaa.PHP
