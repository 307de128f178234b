import Derived.Test.YtocmldppefjbgaaHp6
import Derived.Laws.EntriesVeiled
import Derived.Laws.FloatArith
import Derived.BigQuiet
import Derived.Deep.QuietTactic
namespace Go.Proofs.Ytocmldppefjbgaa.PHP
open Go.RowKit Go.Proofs.YtocmldppefjbgaaW.PrintWords Go.Proofs.YtocmldppefjbgaaW.PrintLast Go.Proofs.YtocmldppefjbgaaW.PrintMore Go.Proofs.YtocmldppefjbgaaH
set_option linter.unusedVariables false
set_option linter.unusedSimpArgs false
/-! ### New -/
theorem info_float : (Try.prog.info? 41).map (fun i => (i.zero, i.size, i.bytes)) = some (some (.float .f64 0), 1, 8) := by kernel_rfl
theorem made_il (n : Nat) : madeCells #[.int .i64 0] n = il (List.replicate n 0) := by
  apply Array.ext'
  apply List.ext_getElem
  · simp [il, madeCells]
  · intro i h1 h2
    simp [il, madeCells, Nat.mod_one]
theorem made_fl (n : Nat) : madeCells #[.float .f64 0] n = fl (List.replicate n 0) := by
  apply Array.ext'
  apply List.ext_getElem
  · simp [fl, madeCells]
  · intro i h1 h2
    simp [fl, madeCells, Nat.mod_one]
theorem al_old (w : World) (o : Obj) {k : Nat} (hk : k < w.heap.size) : (w.alloc o).heap[k]? = w.heap[k]? := (below_alloc (Below.refl w.heap.size w) o).block k hk
theorem al_at (w : World) (o : Obj) {k : Nat} (hk : k = w.heap.size) : (w.alloc o).heap[k]? = some o := by subst hk; exact heap_alloc_new _ _
structure MD (w wx : World) (n g hb gs gp : Nat) : Prop where
  bel : Below w.heap.size w wx
  g0 : w.heap.size ≤ g
  h0 : w.heap.size ≤ hb
  s0 : w.heap.size ≤ gs
  p0 : w.heap.size ≤ gp
  bg : wx.heap[g]? = some (.cells #[.slice none 0 0, .nilFunc, .nilFunc, .slice (some ⟨gs, 0, none⟩) n n, .slice (some ⟨gp, 0, none⟩) n n, .float .f64 4607182418800017408] 80 (0, 0))
  bh : wx.heap[hb]? = some (.cells #[.pointer (some ⟨g, 0, none⟩)] 36 (0, 0))
  bs : wx.heap[gs]? = some (.cells (fl (List.replicate n 0)) 41 (0, 0))
  bp : wx.heap[gp]? = some (.cells (il (List.replicate n 0)) 3 (0, 0))
set_option maxRecDepth 100000 in
set_option maxHeartbeats 4000000 in
theorem hm_made (n : Nat) (w : World) (hn : n ≤ 1048576) : Calls Try.prog 41 #[.int .i64 (n : Int)] w fun e w' => ∃ g, e = .returned (.pointer (some ⟨g, 0, none⟩)) ∧ HS w' (fun k => w.heap.size ≤ k) g n [] (List.replicate n 0) one ∧ Below w.heap.size w w' := by
  have m1 := print_make_of (P := Try.prog) 39 41 (.float .f64 0) 8 Try.underlying39 info_float rfl (by decide) n (by omega)
  have m2 := print_make_of (P := Try.prog) 22 3 (.int .i64 0) 8 Try.underlying22 info_int rfl (by decide) n (by omega)
  rw [made_fl] at m1
  rw [made_il] at m2
  have HN := Aside0.mk hn
  clear hn
  go_enter Try.func41, Try.ntmps41
  go_upto_region 1 with fail
  go_cut [3, 6, 8, 10] (fun v3 v6 v8 v10 wx => ∃ g hb gs gp, v3 = .pointer (some ⟨hb, 0, none⟩) ∧ v6 = .slice (some ⟨gs, 0, none⟩) n n ∧ v8 = .slice (some ⟨gp, 0, none⟩) n n ∧ v10 = .pointer (some ⟨g, 0, none⟩) ∧ Aside0 (MD w wx n g hb gs gp))
  case first =>
    go_wp2_with fail
    go_region
    all_goals go_wp2_with fail
    all_goals go_meet
    all_goals
      refine ⟨_, _, _, _, rfl, rfl, rfl, rfl, ?_⟩
      refine ⟨⟨below_drew1 (below_alloc (below_alloc (below_alloc (below_alloc (Below.refl _ _) _) _) _) _), by omega, by omega, by omega, by omega, ?_, ?_, ?_, ?_⟩⟩
      all_goals ((show (World.alloc _ _).heap[_]? = _); repeat (first | exact al_at _ _ (by simp) | refine (al_old _ _ (by simp; try omega)).trans ?_))
  case rest =>
    obtain ⟨g, hb, gs, gp, rfl, rfl, rfl, rfl, HMD⟩ := hcut
    have k0 := blk_cell HMD.out.bh 0
    have k1 := blk_cell HMD.out.bg 1
    have k2 := blk_cell HMD.out.bg 2
    have f1 := blk_frozen HMD.out.bg 1
    have f2 := blk_frozen HMD.out.bg 2
    have k3 := blk_cell HMD.out.bg 4
    have hgh : g ≠ hb := ty_ne HMD.out.bg HMD.out.bh (by decide)
    have hgh' : hb ≠ g := Ne.symm hgh
    clear m1 m2
    go_upto_region 5 with fail
    obtain ⟨w1, hw1⟩ : ∃ w1, w1 = (wc.setCell ⟨g, 1, none⟩ (.func (.func 47) #[.pointer (some ⟨g, 0, none⟩)] #[])).setCell ⟨g, 2, none⟩ (.func (.func 57) #[] #[.pointer (some ⟨hb, 0, none⟩)]) := ⟨_, rfl⟩
    have hm1 : HM w1 (fun k => w.heap.size ≤ k) g hb gs gp (.slice none 0 0) [] (List.replicate n 0) (List.replicate n 0) one := by
      have h2 : gs ≠ g := ty_ne HMD.out.bs HMD.out.bg (by decide)
      have h3 : gp ≠ g := ty_ne HMD.out.bp HMD.out.bg (by decide)
      refine ⟨HMD.out.g0, HMD.out.h0, HMD.out.s0, HMD.out.p0, ?_, ?_, ?_, ?_, Kd.R_nil _ _ _ _ _⟩
      · rw [hw1, List.length_replicate, List.length_replicate]
        exact blk_set (blk_set HMD.out.bg 1 _) 2 _
      · rw [hw1]; exact blk_far (blk_far HMD.out.bh hgh' _) hgh' _
      · rw [hw1]; exact blk_far (blk_far HMD.out.bs h2 _) h2 _
      · rw [hw1]; exact blk_far (blk_far HMD.out.bp h3 _) h3 _
    have hb1 : Below w.heap.size w w1 := by rw [hw1]; exact below_set (below_set HMD.out.bel HMD.out.g0) HMD.out.g0
    have HM1 := Aside0.mk hm1
    have HB1 := Aside0.mk hb1
    rw [← hw1]
    clear hw1 hm1 hb1 k0 k1 k2 f1 f2 k3 hgh hgh' HMD
    go_loopg [27, 4] n (fun kq v27 v4 w' => ∃ (i : Nat) (pl : List Int), v27 = .int .i64 (i : Int) ∧ i + kq = n ∧ Aside0 (HM w' (fun k => w.heap.size ≤ k) g hb gs gp (.slice none 0 0) [] (List.replicate n 0) pl one) ∧ Aside0 (pl.length = n ∧ ∀ j : Nat, j < i → pl[j]? = some (-1)) ∧ Aside0 (Below w.heap.size w w'))
    case atStart => exact ⟨0, _, rfl, by omega, HM1, ⟨List.length_replicate .., fun j hj => absurd hj (Nat.not_lt_zero _)⟩, HB1⟩
    case round =>
      obtain ⟨i, pl, rfl, hik, HJ, HP, HB⟩ := hrel
      clear HM1 HB1
      have c0 := blk_cell HJ.out.box 0
      have c4 := HJ.out.c 4
      rw [HP.out.1] at c4
      cases gk with
      | zero =>
        have hi : ¬ ((i : Int) < (n : Int)) := by omega
        have HI : Aside0 (i = n) := ⟨by omega⟩
        clear hik
        go_wp2
        go_ret
        refine ⟨g, rfl, ⟨⟨hb, gs, gp, _, pl, HJ.out, ⟨by rw [HP.out.1, List.length_replicate], fun x hx => absurd hx List.not_mem_nil, fun i x hx => by simp at hx, fun v hv _ _ => HP.out.2 v (by rw [HI.out]; simpa using hv)⟩⟩, fun i _ hi => absurd hi (Nat.not_lt_zero _), List.length_replicate .., HN.out, fun x hx => ?_, ?_, ?_⟩, HB.out⟩
        · rw [List.eq_of_mem_replicate hx]; exact Nat.zero_le _
        · decide +kernel
        · decide +kernel
      | succ k2 =>
        have hi : (i : Int) < (n : Int) := by omega
        have hi0 : (0 : Int) ≤ (i : Int) := by omega
        obtain ⟨p1, p2⟩ := HJ.out.p (i := i) (by rw [HP.out.1]; omega)
        have HJ2 := Aside0.mk (HJ.out.setp i (-1))
        have HP2 : Aside0 ((pl.set i (-1)).length = n ∧ ∀ j : Nat, j < i + 1 → (pl.set i (-1))[j]? = some (-1)) := ⟨by rw [List.length_set]; exact HP.out.1, fun j hj => by
          by_cases e : i = j
          · subst e; rw [List.getElem?_set_self (by rw [HP.out.1]; omega)]
          · rw [List.getElem?_set_ne e]; exact HP.out.2 j (by omega)⟩
        have HB2 := Aside0.mk (below_set (j := i) (v := .int .i64 (-1)) HB.out HJ.out.op)
        have HIK := Aside0.mk (And.intro hik HN.out)
        clear hik
        have hn : n ≤ 1048576 := HN.out
        go_wp2
        go_roundg k2
        case measure => omega
        case rel => exact ⟨i + 1, _, by go_num, by have := HIK.out; omega, HJ2, HP2, HB2⟩

end Go.Proofs.Ytocmldppefjbgaa.PHP
