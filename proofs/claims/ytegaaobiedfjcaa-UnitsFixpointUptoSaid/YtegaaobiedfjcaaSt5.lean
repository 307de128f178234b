import Derived.Test.YtegaaobiedfjcaaSt4
namespace Go.Proofs.Ytegaaobiedfjcaa.PU
open Go.RowKit Go.Proofs.YtegaaobiedfjcaaW.PrintWords Go.Proofs.YtegaaobiedfjcaaW.PrintLast Go.Proofs.YtegaaobiedfjcaaW.PrintMore Go.Proofs.YtegaaobiedfjcaaH
set_option linter.unusedVariables false
set_option linter.unusedSimpArgs false
set_option maxHeartbeats 2000000 in
theorem st_Decide_arg (ok : Nat → Prop) (g : Nat) (vals : List Int) (cls : List (List Int × Int × Int)) (marks : List S48) (l : Int) (w : World) (h : St w ok g vals cls marks) (hv : Vals vals) (hb : litB ((vals.length : Int) - 1) l = false) :
    Calls Try.prog 27 #[.pointer (some ⟨g, 0, none⟩), .int .i64 l] w fun e w' => e = .returned (.int .i64 1) ∧ w = w' := by
  have H := Aside0.mk h
  have HV := Aside0.mk hv
  have HB := Aside0.mk hb
  have C0 : Aside0 (w.cell? ⟨g, 0, none⟩ = some (.bool true)) := ⟨by obtain ⟨_, _, _, hp⟩ := h; exact hp.c0⟩
  clear h hv hb
  go_enter Try.func27, Try.ntmps27
  go_wp2_with (first | (go_at_call 35; refine (st_is g _ C0.out).mono ?_; rintro e w' ⟨rfl, rfl⟩) | (go_at_call 47; refine (st_literal ok g vals cls marks l _ H.out HV.out).mono ?_; rw [HB.out]; rintro e w' ⟨rfl, rfl⟩))
  go_ret
  exact ⟨rfl, rfl⟩
theorem litB_iff {n l : Int} : litB n l = true ↔ l ≠ 0 ∧ l ≤ n ∧ -n ≤ l := by simp [litB]
set_option maxHeartbeats 2000000 in
theorem st_Decide_trail (ok : Nat → Prop) (g : Nat) (vals : List Int) (cls : List (List Int × Int × Int)) (marks : List S48) (l : Int) (w : World) (h : St w ok g vals cls marks) (hv : Vals vals) (hb : litB ((vals.length : Int) - 1) l = true) (hn : valL vals l ≠ 0) :
    Calls Try.prog 27 #[.pointer (some ⟨g, 0, none⟩), .int .i64 l] w fun e w' => e = .returned (.int .i64 200) ∧ w = w' := by
  have H := Aside0.mk h
  have HV := Aside0.mk hv
  have HB := Aside0.mk hb
  have C0 : Aside0 (w.cell? ⟨g, 0, none⟩ = some (.bool true)) := ⟨by obtain ⟨_, _, _, hp⟩ := h; exact hp.c0⟩
  have HR : Aside0 (-(vals.length : Int) < l ∧ l < (vals.length : Int)) := ⟨by have := litB_iff.1 hb; omega⟩
  obtain ⟨x, hx⟩ : ∃ x, x = valL vals l := ⟨_, rfl⟩
  have HX := Aside0.mk hx
  have hne : (x != 0) = true := by rw [bne_iff_ne, hx]; exact hn
  clear h hv hb hn hx
  go_enter Try.func27, Try.ntmps27
  go_wp2_with (first | (go_at_call 35; refine (st_is g _ C0.out).mono ?_; rintro e w' ⟨rfl, rfl⟩) | (go_at_call 47; refine (st_literal ok g vals cls marks l _ H.out HV.out).mono ?_; rw [HB.out]; rintro e w' ⟨rfl, rfl⟩) | (go_at_call 48; refine (st_value ok g vals cls marks l _ H.out HV.out HR.out.1 HR.out.2).mono ?_; rw [← HX.out]; rintro e w' ⟨rfl, rfl⟩))
  go_ret
  exact ⟨rfl, rfl⟩
set_option maxHeartbeats 4000000 in
theorem st_Decide (ok : Nat → Prop) (g : Nat) (vals : List Int) (cls : List (List Int × Int × Int)) (marks : List S48) (l : Int) (w : World) (h : St w ok g vals cls marks) (hv : Vals vals) (hb : litB ((vals.length : Int) - 1) l = true) (hn : valL vals l = 0) (hl : marks.length ≤ 4194304) (hlv : 0 ≤ lvl marks ∧ lvl marks ≤ 4194304) :
    Calls Try.prog 27 #[.pointer (some ⟨g, 0, none⟩), .int .i64 l] w fun e w' => e = .returned (.int .i64 0) ∧ St w' (fun k => ok k ∨ w.heap.size ≤ k) g (markV vals l) cls (marks ++ [⟨l, lvl marks + 1, -1⟩]) ∧ Rest w w' ok := by
  have H := Aside0.mk h
  have HV := Aside0.mk hv
  have HB := Aside0.mk hb
  have HL := Aside0.mk hl
  have C0 : Aside0 (w.cell? ⟨g, 0, none⟩ = some (.bool true)) := ⟨by obtain ⟨_, _, _, hp⟩ := h; exact hp.c0⟩
  have HR : Aside0 (-(vals.length : Int) < l ∧ l < (vals.length : Int)) := ⟨by have := litB_iff.1 hb; omega⟩
  have HX := Aside0.mk hn
  obtain ⟨y, hy⟩ : ∃ y, y = lvl marks := ⟨_, rfl⟩
  rw [← hy] at hlv ⊢
  have HY := Aside0.mk hy
  obtain ⟨hl0, hl1⟩ := hlv
  clear h hv hb hn hy hl
  go_enter Try.func27, Try.ntmps27
  go_wp2_with (first | (go_at_call 35; refine (st_is g _ C0.out).mono ?_; rintro e w' ⟨rfl, rfl⟩) | (go_at_call 47; refine (st_literal ok g vals cls marks l _ H.out HV.out).mono ?_; rw [HB.out]; rintro e w' ⟨rfl, rfl⟩) | (go_at_call 48; refine (st_value ok g vals cls marks l _ H.out HV.out HR.out.1 HR.out.2).mono ?_; rw [HX.out]; rintro e w' ⟨rfl, rfl⟩) | (go_at_call 14; refine (st_Level ok g vals cls marks _ H.out).mono ?_; rw [← HY.out]; rintro e w' ⟨rfl, ⟨nd, rfl⟩⟩) | (go_at_call 37; refine (st_mark ok g vals cls marks ⟨l, y + 1, -1⟩ _ (H.out.below (pw_below_drewN (Below.refl w.heap.size w) nd)) HR.out.1 HR.out.2 HL.out HV.out.max).mono ?_; rintro e w3 ⟨rfl, hs, hr⟩; have HS := Aside0.mk hs; have HRR := Aside0.mk hr; clear hs hr))
  go_ret
  exact ⟨rfl, HS.out, ((Rest.refl w ok).drewN nd).trans HRR.out (fun _ _ h => h)⟩

/-! ### look -/
def scanU (vals : List Int) : List Int → Int → Int × Bool
  | [], op => (op, op == 0)
  | l :: ls, op => if valL vals l < 0 ∨ l = op then scanU vals ls op else if 0 < valL vals l then (0, false) else if op ≠ 0 then (0, false) else scanU vals ls l
def okAt (c : List Int) (a b : Int) : Prop := 1 < c.length → (0 ≤ a ∧ a < c.length) ∧ (0 ≤ b ∧ b < c.length)
theorem scanU_true (vals : List Int) {x : Int} (hx : 0 < valL vals x) (h0 : x ≠ 0) : ∀ (c : List Int) (op : Int), x ∈ c → (op = 0 ∨ valL vals op = 0) → scanU vals c op = (0, false) := by
  intro c
  induction c with
  | nil => intro op h; cases h
  | cons l ls ih =>
    intro op h ho
    rw [scanU]
    by_cases h1 : valL vals l < 0 ∨ l = op
    · rw [if_pos h1]
      refine ih op ?_ ho
      rcases List.mem_cons.1 h with rfl | h2
      · rcases h1 with h1 | h1
        · omega
        · subst h1
          rcases ho with h3 | h3
          · exact absurd h3 h0
          · omega
      · exact h2
    · rw [if_neg h1]
      by_cases h2 : 0 < valL vals l
      · rw [if_pos h2]
      · rw [if_neg h2]
        by_cases h3 : op ≠ 0
        · rw [if_pos h3]
        · rw [if_neg h3]
          refine ih l ?_ (.inr ?_)
          · rcases List.mem_cons.1 h with rfl | h4
            · omega
            · exact h4
          · have : ¬ valL vals l < 0 := fun h => h1 (.inl h)
            omega
theorem scanU_two (vals : List Int) {x y : Int} (hx : valL vals x = 0) (hy : valL vals y = 0) (hxy : x ≠ y) (hx0 : x ≠ 0) (hy0 : y ≠ 0) : ∀ (c : List Int) (op : Int), (op = 0 → x ∈ c ∧ y ∈ c) → (op = x → y ∈ c) → (op ≠ 0 → x ∈ c ∨ y ∈ c ∨ True) → (op = y → x ∈ c) → (op ≠ 0 → op ≠ x → op ≠ y → x ∈ c ∨ y ∈ c) → scanU vals c op = (0, false) := by
  intro c
  induction c with
  | nil =>
    intro op h1 h2 _ h3 h4
    by_cases e0 : op = 0
    · exact absurd (h1 e0).1 (by simp)
    · by_cases e1 : op = x
      · exact absurd (h2 e1) (by simp)
      · by_cases e2 : op = y
        · exact absurd (h3 e2) (by simp)
        · exact absurd (h4 e0 e1 e2) (by simp)
  | cons l ls ih =>
    intro op h1 h2 _ h3 h4
    rw [scanU]
    by_cases c1 : valL vals l < 0 ∨ l = op
    · rw [if_pos c1]
      have hlx : l = x → op = x := by
        rintro rfl
        rcases c1 with c1 | c1
        · omega
        · exact c1.symm
      have hly : l = y → op = y := by
        rintro rfl
        rcases c1 with c1 | c1
        · omega
        · exact c1.symm
      have mx : x ∈ l :: ls → op ≠ x → x ∈ ls := fun h hn => (List.mem_cons.1 h).elim (fun e => absurd (hlx e.symm) hn) id
      have my : y ∈ l :: ls → op ≠ y → y ∈ ls := fun h hn => (List.mem_cons.1 h).elim (fun e => absurd (hly e.symm) hn) id
      refine ih op (fun e => ⟨mx (h1 e).1 (by omega), my (h1 e).2 (by omega)⟩) (fun e => my (h2 e) (by omega)) (fun _ => .inr (.inr trivial)) (fun e => mx (h3 e) (by omega)) (fun a b d => (h4 a b d).imp (fun h => mx h b) (fun h => my h d))
    · rw [if_neg c1]
      by_cases c2 : 0 < valL vals l
      · rw [if_pos c2]
      · rw [if_neg c2]
        by_cases c3 : op ≠ 0
        · rw [if_pos c3]
        · rw [if_neg c3]
          have e0 : op = 0 := by omega
          have hl0 : l ≠ 0 := fun e => c1 (.inr (by omega))
          obtain ⟨m1, m2⟩ := h1 e0
          refine ih l (fun e => absurd e hl0) (fun e => ?_) (fun _ => .inr (.inr trivial)) (fun e => ?_) (fun _ b d => .inl ?_)
          · exact (List.mem_cons.1 m2).elim (fun h => absurd (e.symm.trans h.symm) (by omega)) id
          · exact (List.mem_cons.1 m1).elim (fun h => absurd (e.symm.trans h.symm) (by omega)) id
          · exact (List.mem_cons.1 m1).elim (fun h => absurd h.symm b) id
/-- Element i of the clauses: its places are written. -/
theorem Parts.putw {w : World} {ok : Nat → Prop} {g gc cc : Nat} {vv vm : Value} {vals : List Int} {cls : List (List Int × Int × Int)} {marks : List S48} (h : Parts w ok g vv (.slice (some ⟨gc, 0, none⟩) cls.length cc) vm vals cls marks) {i : Nat} (hi : i < cls.length) {c : List Int} {a b : Int} (hc : cls[i]? = some (c, a, b)) :
    (∃ A k, w.cell? ⟨gc, i * 3, none⟩ = some (.slice A c.length k) ∧ Kd.C (Kd.int .i64) w A c.length c) ∧ w.cell? ⟨gc, i * 3 + 1, none⟩ = some (.int .i64 a) ∧ w.cell? ⟨gc, i * 3 + 2, none⟩ = some (.int .i64 b) ∧ (∀ j, w.frozen? ⟨gc, i * 3 + j, none⟩ = false) ∧ ok gc ∧
    (∀ a', Parts (w.setCell ⟨gc, i * 3 + 1, none⟩ (.int .i64 a')) ok g vv (.slice (some ⟨gc, 0, none⟩) cls.length cc) vm vals (cls.set i (c, a', b)) marks) ∧
    (∀ a' b', Parts ((w.setCell ⟨gc, i * 3 + 1, none⟩ (.int .i64 a')).setCell ⟨gc, i * 3 + 2, none⟩ (.int .i64 b')) ok g vv (.slice (some ⟨gc, 0, none⟩) cls.length cc) vm vals (cls.set i (c, a', b')) marks) := by
  obtain ⟨cs, hcl, hM, hcell, hfr⟩ := Kd.R_elem h.rc ([], 0, 0) (i : Int) (by omega) (by omega)
  have hgt : (cls.getD i ([], 0, 0)) = (c, a, b) := by rw [List.getD_eq_getElem?_getD, hc]; rfl
  rw [Int.toNat_natCast, hgt] at hM
  rw [Int.toNat_natCast] at hcell hfr
  obtain ⟨c0, c1, rfl, ⟨v, rfl, hR⟩, ⟨c2, c3, rfl, rfl, rfl⟩⟩ := hM
  have hsz : kW.sz = 3 := rfl
  rw [hsz] at hcell hfr
  obtain ⟨A, k, rfl, hlk, hC⟩ := Kd.R_reads hR
  have hgg : gc ≠ g := (h.rc.1 gc rfl).1.2
  have key : ∀ (seg : List Value) (x' : List Int × Int × Int), 1 + seg.length ≤ 3 → kW.M w 0 (fun k => ((ok k ∧ k ≠ g) ∧ some k ≠ vv.ownBlock) ∧ k ≠ gc) x' ([Value.slice A c.length k, Value.int .i64 a, Value.int .i64 b].take 1 ++ seg ++ [Value.slice A c.length k, Value.int .i64 a, Value.int .i64 b].drop (1 + seg.length)) →
      Parts (w.setCells gc (i * 3 + 1) seg) ok g vv (.slice (some ⟨gc, 0, none⟩) cls.length cc) vm vals (cls.set i x') marks := by
    intro seg x' hs hm
    have hh := Kd.R_seg h.rc (i : Int) (by omega) (by omega) (c := [Value.slice A c.length k, Value.int .i64 a, Value.int .i64 b]) (seg := seg) (j := 1) rfl (by rw [Int.toNat_natCast, hsz]; exact hcell) (by rw [hsz]; exact hs) hm (fun k hk => hk)
    rw [Int.toNat_natCast, hsz] at hh
    have hb := hh.2.block
    refine ⟨h.og, (hb g (blk_lt h.blk) (fun e => hgg (by injection e with e; exact e.symm))).trans h.blk, ?_, hh.1, ?_⟩
    · exact Kd.R_over h.rv h.rc (by decide) hh.2
    · exact Kd.R_over h.rm h.rc (by simp [k48, Kd.iso, Kd.pair, Kd.int, Kd.scalar]) hh.2
  refine ⟨⟨A, k, by simpa using hcell 0 _ rfl, hC⟩, hcell 1 _ rfl, hcell 2 _ rfl, hfr, (h.rc.1 gc rfl).1.1, fun a' => ?_, fun a' b' => ?_⟩
  · have := key [.int .i64 a'] (c, a', b) (by simp) (kW_mkM hR a' b)
    simpa [World.setCells] using this
  · have := key [.int .i64 a', .int .i64 b'] (c, a', b') (by simp) (kW_mkM hR a' b')
    simpa [World.setCells] using this

end Go.Proofs.Ytegaaobiedfjcaa.PU
