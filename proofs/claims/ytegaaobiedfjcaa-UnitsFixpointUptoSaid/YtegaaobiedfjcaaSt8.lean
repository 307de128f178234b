import Derived.Test.YtegaaobiedfjcaaSt7
import Derived.Deep.RegionWith
namespace Go.Proofs.Ytegaaobiedfjcaa.PU
open Go.RowKit Go.Proofs.YtegaaobiedfjcaaW.PrintWords Go.Proofs.YtegaaobiedfjcaaW.PrintLast Go.Proofs.YtegaaobiedfjcaaW.PrintMore Go.Proofs.YtegaaobiedfjcaaH
set_option linter.unusedVariables false
set_option linter.unusedSimpArgs false
set_option maxHeartbeats 2000000 in
theorem st_Marks (ok : Nat → Prop) (g : Nat) (vals : List Int) (cls : List (List Int × Int × Int)) (marks : List S48) (w : World) (h : St w ok g vals cls marks) (hm : marks.length ≤ 4194304) :
    Calls Try.prog 20 #[.pointer (some ⟨g, 0, none⟩)] w fun e w' => ∃ v0_ : Value, e = .returned v0_ ∧ Kd.R k48 48 w' w.heap.size (fun _ => True) v0_ marks ∧ Below w.heap.size w w' := by
  have c0 : w.cell? ⟨g, 0, none⟩ = some (.bool true) := by obtain ⟨_, _, _, q⟩ := h; exact q.c0
  obtain ⟨vv, vc, vm, hp⟩ := h
  obtain ⟨A, c, rfl⟩ := Kd.R_slice hp.rm
  have c3 := hp.c3
  have f3 := hp.f 3
  have HR := Aside0.mk (Kd.R_reads' hp.rm)
  have HM := Aside0.mk hm
  clear hp hm
  go_enter Try.func20, Try.ntmps20
  go_wp2_with (first | (go_at_call 35; refine (st_is g _ c0).mono ?_; rintro e w' ⟨rfl, rfl⟩) | (go_at_call 40; refine (clone_marks A c marks _ HR.out.2.2 HM.out).mono ?_; rintro e w' ⟨v, rfl, hv, hb⟩; have HV := Aside0.mk (And.intro hv hb); clear hv hb))
  go_ret
  exact ⟨v, rfl, HV.out.1, HV.out.2⟩

theorem info_clause : (Try.prog.info? 34).map (fun i => (i.zero, i.size, i.bytes)) = some (some (.slice none 0 0), 1, 24) := by kernel_rfl
theorem kS_mkM {w : World} {base : Nat} {ok : Nat → Prop} {v : Value} {l : List Int} (h : Kd.R (Kd.int .i64) 3 w base ok v l) : (Kd.slice 3 (Kd.int .i64)).M w base ok l [v] := ⟨v, rfl, h⟩
set_option maxHeartbeats 4000000 in
set_option maxRecDepth 100000 in
theorem st_Clauses (ok : Nat → Prop) (g : Nat) (vals : List Int) (cls : List (List Int × Int × Int)) (marks : List S48) (w : World) (h : St w ok g vals cls marks) (hcap : cls.length ≤ 1048576) (hlen : ∀ x ∈ cls, x.1.length ≤ 4194304) :
    Calls Try.prog 19 #[.pointer (some ⟨g, 0, none⟩)] w fun e w' => ∃ v0_ : Value, e = .returned v0_ ∧ Kd.R (Kd.slice 3 (Kd.int .i64)) 34 w' w.heap.size (fun _ => True) v0_ (cls.map Prod.fst) ∧ Below w.heap.size w w' := by
  have c0 : w.cell? ⟨g, 0, none⟩ = some (.bool true) := by obtain ⟨_, _, _, q⟩ := h; exact q.c0
  obtain ⟨vv, vc, vm, hp⟩ := h
  obtain ⟨A, c, rfl⟩ := Kd.R_slice hp.rc
  have c2 := hp.c2
  have f2 := hp.f 2
  have HP := Aside0.mk hp
  have HLEN := Aside0.mk hlen
  clear hp hlen
  go_enter Try.func19, Try.ntmps19
  go_wp2_with (first | (go_at_call 35; refine (st_is g _ c0).mono ?_; rintro e w' ⟨rfl, rfl⟩))
  go_loopg [3, 14] cls.length (fun kq v3 v14 w' => ∃ n : Nat, v14 = .int .i64 (n : Int) ∧ n + kq = cls.length ∧ Aside0 (Kd.R (Kd.slice 3 (Kd.int .i64)) 34 w' w.heap.size (fun _ => True) v3 ((cls.map Prod.fst).take n) ∧ Below w.heap.size w w'))
  case atStart => exact ⟨0, rfl, by omega, ⟨Kd.R_nil _ _ _ _ _, by first | exact Below.refl _ _ | exact pw_below_drewN (Below.refl _ _) _⟩⟩
  case round =>
    obtain ⟨n, rfl, hnk, H2⟩ := hrel
    cases gk with
    | succ k1 =>
      have hlt : n < cls.length := by omega
      obtain ⟨gc, cc, hAc⟩ := HP.out.hdr (by omega)
      injection hAc with hA1 hA2 hA3
      subst hA1
      obtain ⟨⟨cl, a, b⟩, hi⟩ : ∃ x, cls[n]? = some x := ⟨_, List.getElem?_eq_getElem hlt⟩
      have hmem := List.mem_of_getElem? hi
      have HLN := Aside0.mk (HLEN.out _ hmem)
      have hp := HP.out.step (w1 := wr) (fun k _ hk => H2.out.2.block k hk)
      obtain ⟨⟨Ax, kx, x0, hC⟩, x1, x2, hfr, _, _, _⟩ := hp.putw hlt hi
      have HC := Aside0.mk hC
      have f0' := hfr 0
      have f1' := hfr 1
      have f2' := hfr 2
      have htk : (cls.map Prod.fst).take (n + 1) = (cls.map Prod.fst).take n ++ [cl] := by
        rw [List.take_add_one, List.getElem?_map, hi]; rfl
      obtain ⟨xs, hxs⟩ : ∃ xs, xs = (cls.map Prod.fst).take n := ⟨_, rfl⟩
      have hxl : xs.length = n := by rw [hxs, List.length_take, List.length_map]; omega
      rw [← hxs] at H2 htk
      obtain ⟨A3, c3, rfl⟩ := Kd.R_slice H2.out.1
      have h3 : ∀ k, Value.ownBlock (.slice A3 xs.length c3) = some k → k < wr.heap.size := fun k hk => Kd.R_lt H2.out.1 k hk
      have H3 := Aside0.mk h3
      have HTK := Aside0.mk htk
      have HXL := Aside0.mk hxl
      clear hp hC hmem hfr htk hA2 hA3 h3 hxs hxl
      go_wp2_with (first | (go_at_call 39; refine (clone_ints Ax kx cl _ (Kd.C_below HC.out (by repeat (first | exact Below.refl _ _ | apply below_alloc | apply pw_below_drewN | apply below_drew1))) HLN.out).mono ?_; rintro e w4 ⟨v4, rfl, ho4, hb4⟩; obtain ⟨A4, c4, rfl⟩ := Kd.R_slice ho4; have hB4 : Below wr.heap.size wr w4 := below_step (by repeat (first | exact Below.refl _ _ | apply below_alloc | apply pw_below_drewN | apply below_drew1)) hb4; have HB4 := Aside0.mk (below_step H2.out.2 hB4); have HO4 := Aside0.mk (Kd.R_mono (Kd.R_lower (Kd.R_bound ho4) (Nat.le_trans H2.out.2.size (by first | exact Nat.le_refl _ | exact (below_alloc (Below.refl wr.heap.size wr) _).size | simp))) (ok' := fun k => wr.heap.size ≤ k) (fun k hk => by have := hk.2.1; simp at this; omega)); have HO3 := Aside0.mk (Kd.R_below H2.out.1 hB4); have HS4 := Aside0.mk hB4.size; clear ho4 hb4 hB4) | ((with_reducible refine gate_builtin (b := .append) (xs := #[.tmp 18, .tmp 22]) rfl ?_); at_builtin; refine Kd.R_append (Kd.slice 3 (Kd.int .i64)) (w0 := w) w.heap.size rfl (.tmp 18) (.tmp 22) 31 34 (.slice none 0 0) 24 rfl Try.underlying31 info_clause rfl (by decide) (by omega) (.slice A3 xs.length c3) xs cl [.slice A4 cl.length c4] (fun _ => True) (fun k => wr.heap.size ≤ k) rfl rfl ?aP ?aK ?aF ?aO ?aB ?aS ?aL ?_; (case aP => exact kS_mkM HO4.out); (case aK => exact fun k hk => ⟨trivial, fun e => by have := H3.out k e.symm; omega⟩); (case aF => exact fun _ _ => trivial); (case aO => exact HO3.out); (case aB => exact HB4.out); (case aS => exact HB4.out.size); (case aL => have := HXL.out; omega); intro v5 w5 ho hb hg hat; rw [← HTK.out] at ho; have HZ := Aside0.mk (And.intro ho hb); clear ho hb hg hat))
      go_roundg k1
      case measure => omega
      case rel => exact ⟨n + 1, by go_num, by omega, HZ⟩
    | zero =>
      obtain rfl : n = cls.length := by omega
      go_wp2
      go_ret
      have h5 := H2.out.1
      rw [List.take_of_length_le (by simp)] at h5
      exact ⟨_, rfl, h5, H2.out.2⟩

end Go.Proofs.Ytegaaobiedfjcaa.PU
