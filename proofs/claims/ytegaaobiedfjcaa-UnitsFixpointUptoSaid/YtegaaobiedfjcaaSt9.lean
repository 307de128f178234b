import Derived.Test.YtegaaobiedfjcaaSt8
import Derived.Deep.RegionWith
namespace Go.Proofs.Ytegaaobiedfjcaa.PU
open Go.RowKit Go.Proofs.YtegaaobiedfjcaaW.PrintWords Go.Proofs.YtegaaobiedfjcaaW.PrintLast Go.Proofs.YtegaaobiedfjcaaW.PrintMore Go.Proofs.YtegaaobiedfjcaaH
set_option linter.unusedVariables false
set_option linter.unusedSimpArgs false
def addAll (vals : List Int) (l : List (List Int)) : List (List Int × Int × Int) := (l.filter (fun c => litsOk vals c)).map (fun c => (c, 0, 0))
def decU (s : List Int × List S48) (lit : Int) : List Int × List S48 :=
  if litB ((s.1.length : Int) - 1) lit = true ∧ valL s.1 lit = 0 then (markV s.1 lit, s.2 ++ [⟨lit, lvl s.2 + 1, -1⟩]) else s
theorem addAll_len (vals : List Int) (l : List (List Int)) : (addAll vals l).length ≤ l.length := by
  unfold addAll; rw [List.length_map]; exact List.length_filter_le _ _
theorem take_rd2 {l : List (List Int)} {i : Nat} (h : i < l.length) : l.take (i + 1) = l.take i ++ [rd_L2 l (i : Int)] := by
  rw [List.take_add_one, List.getElem?_eq_getElem h]
  simp [rd_L2, List.getD_eq_getElem?_getD, List.getElem?_eq_getElem h]
theorem take_rd {l : List Int} {i : Nat} (h : i < l.length) : l.take (i + 1) = l.take i ++ [rd l (i : Int)] := by
  rw [List.take_add_one, rd_get h]; rfl
theorem lvl_snoc (marks : List S48) (m : S48) : lvl (marks ++ [m]) = m.f1 := by
  unfold lvl
  rw [if_neg (by simp)]
  have : rd_T48 (marks ++ [m]) (((marks ++ [m]).length : Int) - 1) = m := by
    rw [List.length_append, List.length_singleton]
    have : (((marks.length + 1 : Nat) : Int) - 1) = (marks.length : Int) := by omega
    rw [this]
    simp [rd_T48, List.getD_eq_getElem?_getD]
  rw [this]
theorem fit0 {n : Int} (h0 : 0 ≤ n) (h1 : n ≤ 262144) {l : List (List Int)} (hl : l.length < 1048576) : Fit (List.replicate (n + 1).toNat 0) (addAll (List.replicate (n + 1).toNat 0) l) [] := by
  refine ⟨⟨by simp; omega, by simp; omega, fun x hx => by have := List.eq_of_mem_replicate hx; omega⟩, fun x hx => ?_, fun x hx => ?_, Nat.le_trans (addAll_len _ _) (by omega), by simp⟩
  · obtain ⟨c, hc, rfl⟩ := List.mem_map.1 hx
    exact (List.mem_filter.1 hc).2
  · obtain ⟨c, hc, rfl⟩ := List.mem_map.1 hx
    intro h
    dsimp only at h ⊢
    omega
set_option maxHeartbeats 4000000 in
set_option maxRecDepth 100000 in
theorem st_made (n : Int) (A0 : Option Addr) (c0 : Nat) (l0 : List (List Int)) (A1 : Option Addr) (c1 : Nat) (l1 : List Int) (w : World) (h0 : 0 ≤ n) (h1 : n ≤ 262144)
    (hr0 : Kd.C (Kd.slice 3 (Kd.int .i64)) w A0 l0.length l0) (hr1 : Kd.C (Kd.int .i64) w A1 l1.length l1) (hl0 : l0.length < 1048576) (hl1 : ∀ c ∈ l0, c.length ≤ 4194304) (hl2 : l1.length ≤ 1048576) :
    Calls Try.prog 16 #[.int .i64 n, .slice A0 l0.length c0, .slice A1 l1.length c1] w fun e w' => ∃ g vals marks, e = .returned (.pointer (some ⟨g, 0, none⟩)) ∧ (vals, marks) = l1.foldl decU (List.replicate (n + 1).toNat 0, []) ∧
      St w' (fun k => w.heap.size ≤ k) g vals (addAll (List.replicate (n + 1).toNat 0) l0) marks ∧ Fit vals (addAll (List.replicate (n + 1).toNat 0) l0) marks ∧ Below w.heap.size w w' := by
  have HR0 := Aside0.mk hr0
  have HR1 := Aside0.mk hr1
  have HL := Aside0.mk (And.intro hl0 hl1)
  have h01 := h0
  have h11 := h1
  have HN := Aside0.mk (And.intro h0 h1)
  clear hr0 hr1 hl1 h01 h11
  go_enter Try.func16, Try.ntmps16
  go_wp2_with (first | (go_at_call 10; refine (st_New n _ h0 h1).mono ?_; rintro e w1 ⟨g, rfl, hst, hb⟩; have H1 := Aside0.mk (And.intro hst hb); clear hst hb))
  obtain ⟨vals0, hv0⟩ : ∃ v, v = List.replicate (n + 1).toNat (0 : Int) := ⟨_, rfl⟩
  rw [← hv0] at H1
  have HV0 := Aside0.mk hv0
  have HF0 : Aside0 (∀ l : List (List Int), l.length < 1048576 → Fit vals0 (addAll vals0 l) []) := ⟨fun l hl => by rw [hv0]; exact fit0 h0 h1 hl⟩
  clear h0 h1 hv0
  go_loopg [9] l0.length (fun kq v9 w' => ∃ i : Nat, v9 = .int .i64 (i : Int) ∧ i + kq = l0.length ∧ Aside0 (St w' (fun k => w.heap.size ≤ k) g vals0 (addAll vals0 (l0.take i)) [] ∧ Below w.heap.size w w'))
  case atStart => exact ⟨0, rfl, by omega, ⟨by simpa [addAll] using H1.out.1, H1.out.2⟩⟩
  case round =>
    obtain ⟨i, rfl, hik, H2⟩ := hrel
    cases gk with
    | succ k1 =>
      have hlt : i < l0.length := by omega
      obtain ⟨ad, Ax, cx, rfl, hxc, hcx, hxC⟩ := at_L2 (Kd.C_below HR0.out H2.out.2) (i : Int) (by omega) (by omega)
      rw [Int.toNat_natCast] at hxc
      obtain ⟨c, hc⟩ : ∃ c, c = rd_L2 l0 (i : Int) := ⟨_, rfl⟩
      have htk := take_rd2 hlt
      rw [← hc] at hxc hcx hxC htk
      have hcm : c ∈ l0 := by
        have : c ∈ l0.take (i + 1) := by rw [htk]; simp
        exact List.mem_of_mem_take this
      have HCL := Aside0.mk (HL.out.2 c hcm)
      have HXC := Aside0.mk hxC
      have HTK := Aside0.mk htk
      have hlen : (addAll vals0 (l0.take i)).length < 1048576 := by
        have h5 := addAll_len vals0 (l0.take i)
        have h6 := HL.out.1
        rw [List.length_take] at h5
        omega
      have HLN := Aside0.mk hlen
      have HVV := Aside0.mk (HF0.out [] (by simp)).v
      clear hc hcx hxC htk hcm hlen
      by_cases hb : litsOk vals0 c = true
      · have HB := Aside0.mk hb
        clear hb
        go_wp2_with (first | (go_at_call 25; refine (st_Add (fun k => w.heap.size ≤ k) g vals0 _ [] Ax cx c _ HXC.out H2.out.1 HVV.out HB.out HLN.out HCL.out).mono ?_; rintro e w4 ⟨rfl, hs4, hr4⟩; have H4 := Aside0.mk (And.intro hs4 hr4); clear hs4 hr4))
        go_roundg k1
        case measure => omega
        case rel =>
          refine ⟨i + 1, by go_num, by omega, ⟨?_, H4.out.2.below H2.out.2 (fun _ h => h)⟩⟩
          have e5 : addAll vals0 (l0.take (i + 1)) = addAll vals0 (l0.take i) ++ [(c, 0, 0)] := by
            rw [HTK.out]; unfold addAll; rw [List.filter_append, List.map_append]; simp [HB.out]
          rw [e5]
          exact H4.out.1.mono (fun k hk => hk.elim id (fun hk => Nat.le_trans H2.out.2.size hk))
      · have hb' : litsOk vals0 c = false := by simpa using hb
        have HB := Aside0.mk hb'
        clear hb hb'
        go_wp2_with (first | (go_at_call 25; refine (st_Add_bad (fun k => w.heap.size ≤ k) g vals0 _ [] Ax cx c _ HXC.out H2.out.1 HVV.out HB.out).mono ?_; rintro e w4 ⟨rfl, hb4⟩; have H4 := Aside0.mk hb4; clear hb4))
        go_roundg k1
        case measure => omega
        case rel =>
          refine ⟨i + 1, by go_num, by omega, ⟨?_, below_step H2.out.2 H4.out⟩⟩
          have e5 : addAll vals0 (l0.take (i + 1)) = addAll vals0 (l0.take i) := by
            rw [HTK.out]; unfold addAll; rw [List.filter_append, List.map_append]; simp [HB.out]
          rw [e5]
          exact H2.out.1.below H4.out
    | zero =>
      obtain rfl : i = l0.length := by omega
      have H3 : Aside0 (St wr (fun k => w.heap.size ≤ k) g vals0 (addAll vals0 l0) [] ∧ Below w.heap.size w wr) := ⟨by have := H2.out; rwa [List.take_length] at this⟩
      clear H2 H1
      go_wp2
      go_loopg [10] l1.length (fun kq v10 w' => ∃ (i : Nat) (vals : List Int) (marks : List S48), v10 = .int .i64 (i : Int) ∧ i + kq = l1.length ∧ Aside0 ((vals, marks) = (l1.take i).foldl decU (vals0, []) ∧ St w' (fun k => w.heap.size ≤ k) g vals (addAll vals0 l0) marks ∧ Fit vals (addAll vals0 l0) marks ∧ lvl marks = marks.length ∧ Below w.heap.size w w'))
      case atStart => exact ⟨0, vals0, [], rfl, by omega, ⟨rfl, H3.out.1, HF0.out _ HL.out.1, rfl, H3.out.2⟩⟩
      case round =>
        obtain ⟨i, vals, marks, rfl, hik, H2⟩ := hrel
        cases gk with
        | succ k1 =>
          have hlt : i < l1.length := by omega
          obtain ⟨ad, rfl, hx⟩ := Kd.at_int (Kd.C_below HR1.out H2.out.2.2.2.2) (i : Int) (by omega) (by omega)
          rw [Int.toNat_natCast] at hx
          have htk := take_rd hlt
          obtain ⟨x, hxe⟩ : ∃ x, x = rd l1 (i : Int) := ⟨_, rfl⟩
          rw [← hxe] at hx htk
          have hstep : (l1.take (i + 1)).foldl decU (vals0, []) = decU (vals, marks) x := by rw [htk, List.foldl_append, ← H2.out.1]; rfl
          have HTK := Aside0.mk hstep
          have hml : marks.length ≤ 4194304 := by have h5 := H2.out.2.2.1.sum; have h6 := H2.out.2.2.1.v.max; omega
          have HML := Aside0.mk hml
          clear hxe htk hstep hml
          by_cases hb : litB ((vals.length : Int) - 1) x = true
          · have HB := Aside0.mk hb
            by_cases hz : valL vals x = 0
            · have HZ := Aside0.mk hz
              have HLV : Aside0 (0 ≤ lvl marks ∧ lvl marks ≤ 4194304) := ⟨by rw [H2.out.2.2.2.1]; have := HML.out; omega⟩
              clear hb hz
              go_wp2_with (first | (go_at_call 27; refine (st_Decide (fun k => w.heap.size ≤ k) g vals _ marks x _ H2.out.2.1 H2.out.2.2.1.v HB.out HZ.out HML.out HLV.out).mono ?_; rintro e w4 ⟨rfl, hs4, hr4⟩; have H4 := Aside0.mk (And.intro hs4 hr4); clear hs4 hr4))
              go_roundg k1
              case measure => omega
              case rel =>
                refine ⟨i + 1, _, _, by go_num, by omega, ⟨?_, H4.out.1.mono (fun k hk => hk.elim id (fun hk => Nat.le_trans H2.out.2.2.2.2.size hk)), ?_, ?_, H4.out.2.below H2.out.2.2.2.2 (fun _ h => h)⟩⟩
                · rw [HTK.out]; unfold decU; rw [if_pos ⟨HB.out, HZ.out⟩]
                · have := litB_iff.1 HB.out
                  exact H2.out.2.2.1.mark ⟨x, lvl marks + 1, -1⟩ (by dsimp only; omega) (by dsimp only; omega) HZ.out
                · rw [lvl_snoc, H2.out.2.2.2.1]; simp
            · have HZ := Aside0.mk hz
              clear hb hz
              go_wp2_with (first | (go_at_call 27; refine (st_Decide_trail (fun k => w.heap.size ≤ k) g vals _ marks x _ H2.out.2.1 H2.out.2.2.1.v HB.out HZ.out).mono ?_; rintro e w4 ⟨rfl, rfl⟩))
              go_roundg k1
              case measure => omega
              case rel => exact ⟨i + 1, vals, marks, by go_num, by omega, ⟨by rw [HTK.out]; unfold decU; rw [if_neg (fun h => HZ.out h.2)], H2.out.2⟩⟩
          · have HB := Aside0.mk (show litB ((vals.length : Int) - 1) x = false by simpa using hb)
            clear hb
            go_wp2_with (first | (go_at_call 27; refine (st_Decide_arg (fun k => w.heap.size ≤ k) g vals _ marks x _ H2.out.2.1 H2.out.2.2.1.v HB.out).mono ?_; rintro e w4 ⟨rfl, rfl⟩))
            go_roundg k1
            case measure => omega
            case rel => exact ⟨i + 1, vals, marks, by go_num, by omega, ⟨by rw [HTK.out]; unfold decU; rw [if_neg (fun h => by have := HB.out; rw [this] at h; exact absurd h.1 (by simp))], H2.out.2⟩⟩
        | zero =>
          obtain rfl : i = l1.length := by omega
          have H5 := H2.out
          rw [List.take_length] at H5
          have H6 := Aside0.mk H5
          clear H2 H5
          go_wp2
          go_ret
          exact ⟨g, vals, marks, rfl, by rw [← HV0.out]; exact H6.out.1, by rw [← HV0.out]; exact H6.out.2.1, by rw [← HV0.out]; exact H6.out.2.2.1, H6.out.2.2.2.2⟩

end Go.Proofs.Ytegaaobiedfjcaa.PU
