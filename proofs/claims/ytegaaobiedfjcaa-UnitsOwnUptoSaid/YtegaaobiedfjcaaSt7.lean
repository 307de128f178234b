import Derived.Test.YtegaaobiedfjcaaSt6
import Derived.Deep.RegionWith
namespace Go.Proofs.Ytegaaobiedfjcaa.PU
open Go.RowKit Go.Proofs.YtegaaobiedfjcaaW.PrintWords Go.Proofs.YtegaaobiedfjcaaW.PrintLast Go.Proofs.YtegaaobiedfjcaaW.PrintMore Go.Proofs.YtegaaobiedfjcaaH
set_option linter.unusedVariables false
set_option linter.unusedSimpArgs false
structure Fit (vals : List Int) (cls : List (List Int × Int × Int)) (marks : List S48) : Prop where
  v : Vals vals
  lit : ∀ x ∈ cls, litsOk vals x.1 = true
  at_ : ∀ x ∈ cls, okAt x.1 x.2.1 x.2.2
  cap : cls.length ≤ 1048576
  sum : marks.length + vals.count 0 ≤ vals.length
theorem count_set0 : ∀ (l : List Int) (i : Nat) (v : Int), l[i]? = some 0 → v ≠ 0 → (l.set i v).count 0 + 1 = l.count 0
  | [], i, v, h, _ => by simp at h
  | x :: xs, 0, v, h, hv => by
    simp only [List.getElem?_cons_zero, Option.some.injEq] at h
    subst h
    simp [List.count_cons, hv]
  | x :: xs, i + 1, v, h, hv => by
    have := count_set0 xs i v (by simpa using h) hv
    simp only [List.set_cons_succ, List.count_cons]
    omega
theorem rd_get {l : List Int} {i : Nat} (h : i < l.length) : l[i]? = some (rd l (i : Int)) := by
  simp [rd, List.getD_eq_getElem?_getD, List.getElem?_eq_getElem h]
theorem markV_len (vals : List Int) (l : Int) : (markV vals l).length = vals.length := by unfold markV; split <;> simp
theorem litsOk_len {vals vals' : List Int} (h : vals'.length = vals.length) (c : List Int) : litsOk vals' c = litsOk vals c := by unfold litsOk; rw [h]
theorem markV_count {vals : List Int} {l : Int} (h1 : -(vals.length : Int) < l) (h2 : l < (vals.length : Int)) (h0 : valL vals l = 0) : (markV vals l).count 0 + 1 = vals.count 0 := by
  unfold markV valL at *
  split at h0
  · rename_i hl
    rw [if_pos hl]
    obtain ⟨n, hn⟩ := Int.eq_ofNat_of_zero_le (a := -l) (by omega)
    rw [hn] at h0 ⊢
    rw [Int.toNat_natCast]
    refine count_set0 _ _ _ ?_ (by decide)
    rw [rd_get (by omega)]
    congr 1; omega
  · rename_i hl
    rw [if_neg hl]
    obtain ⟨n, hn⟩ := Int.eq_ofNat_of_zero_le (a := l) (by omega)
    rw [hn] at h0 ⊢
    rw [Int.toNat_natCast]
    refine count_set0 _ _ _ ?_ (by decide)
    rw [rd_get (by omega)]
    congr 1
theorem Vals.mark {vals : List Int} (h : Vals vals) (l : Int) : Vals (markV vals l) := by
  refine ⟨by rw [markV_len]; exact h.pos, by rw [markV_len]; exact h.max, fun x hx => ?_⟩
  unfold markV at hx
  split at hx
  · rcases List.mem_or_eq_of_mem_set hx with q | q
    · exact h.rng x q
    · omega
  · rcases List.mem_or_eq_of_mem_set hx with q | q
    · exact h.rng x q
    · omega
theorem Fit.mark {vals : List Int} {cls : List (List Int × Int × Int)} {marks : List S48} (h : Fit vals cls marks) (m : S48) (h1 : -(vals.length : Int) < m.f0) (h2 : m.f0 < (vals.length : Int)) (h0 : valL vals m.f0 = 0) : Fit (markV vals m.f0) cls (marks ++ [m]) := by
  have := markV_count h1 h2 h0
  have h3 := h.sum
  refine ⟨h.v.mark _, fun x hx => by rw [litsOk_len (markV_len _ _)]; exact h.lit x hx, h.at_, h.cap, ?_⟩
  rw [markV_len, List.length_append, List.length_singleton]
  omega
theorem Fit.look {vals : List Int} {cls : List (List Int × Int × Int)} {marks : List S48} (h : Fit vals cls marks) {i : Nat} {c : List Int} {a b : Int} (hc : cls[i]? = some (c, a, b)) {a' b' : Int} (ha : okAt c a' b') : Fit vals (cls.set i (c, a', b')) marks := by
  have hm : (c, a, b) ∈ cls := List.mem_of_getElem? hc
  refine ⟨h.v, fun x hx => ?_, fun x hx => ?_, by rw [List.length_set]; exact h.cap, h.sum⟩
  · rcases List.mem_or_eq_of_mem_set hx with q | q
    · exact h.lit x q
    · rw [q]; exact h.lit (c, a, b) hm
  · rcases List.mem_or_eq_of_mem_set hx with q | q
    · exact h.at_ x q
    · rw [q]; exact ha
theorem map_look {cls : List (List Int × Int × Int)} {i : Nat} {c : List Int} {a b : Int} (hc : cls[i]? = some (c, a, b)) (a' b' : Int) : (cls.set i (c, a', b')).map Prod.fst = cls.map Prod.fst := by
  apply List.ext_getElem?
  intro j
  rw [List.getElem?_map, List.getElem?_map]
  by_cases hj : i = j
  · subst hj
    rw [List.getElem?_set_self (List.getElem?_eq_some_iff.1 hc).1, hc]
    rfl
  · rw [List.getElem?_set_ne hj]
theorem scanU_op (vals : List Int) {op : Int} (ho : op ≠ 0) : ∀ (c : List Int) (l : Int) (b : Bool), scanU vals c op = (l, b) → b = false ∧ (l = 0 ∧ (∃ x ∈ c, ¬ valL vals x < 0 ∧ x ≠ op) ∨ l = op ∧ ∀ x ∈ c, x ≠ op → valL vals x < 0)
  | [], l, b, h => by
    rw [scanU] at h
    injection h with e1 e2
    subst e1 e2
    exact ⟨by simpa using ho, .inr ⟨rfl, fun x hx => by cases hx⟩⟩
  | y :: ys, l, b, h => by
    rw [scanU] at h
    by_cases q1 : valL vals y < 0 ∨ y = op
    · rw [if_pos q1] at h
      obtain ⟨g1, g2⟩ := scanU_op vals ho ys l b h
      refine ⟨g1, g2.imp (fun ⟨q, x, hx, q2⟩ => ⟨q, x, List.mem_cons_of_mem _ hx, q2⟩) (fun ⟨q, h2⟩ => ⟨q, fun x hx hn => ?_⟩)⟩
      rcases List.mem_cons.1 hx with rfl | hx
      · exact q1.resolve_right hn
      · exact h2 x hx hn
    · rw [if_neg q1] at h
      have q1' : ¬ valL vals y < 0 ∧ y ≠ op := ⟨fun q => q1 (.inl q), fun q => q1 (.inr q)⟩
      by_cases q2 : 0 < valL vals y
      · rw [if_pos q2] at h
        injection h with e1 e2
        exact ⟨e2.symm, .inl ⟨e1.symm, y, List.mem_cons_self, q1'⟩⟩
      · rw [if_neg q2, if_pos ho] at h
        injection h with e1 e2
        exact ⟨e2.symm, .inl ⟨e1.symm, y, List.mem_cons_self, q1'⟩⟩
/-- What look's answer says: the clause is false; or it has a true literal or two open ones; or it forces one. -/
theorem scanU_says (vals : List Int) : ∀ (c : List Int) (l : Int) (b : Bool), (∀ x ∈ c, x ≠ 0) → scanU vals c 0 = (l, b) →
    (l = 0 ∧ b = true ∧ ∀ x ∈ c, valL vals x < 0) ∨ (l = 0 ∧ b = false ∧ ((∃ x ∈ c, 0 < valL vals x) ∨ ∃ x ∈ c, ∃ y ∈ c, x ≠ y ∧ ¬ valL vals x < 0 ∧ ¬ valL vals y < 0)) ∨ (l ≠ 0 ∧ b = false ∧ l ∈ c ∧ valL vals l = 0 ∧ ∀ x ∈ c, x ≠ l → valL vals x < 0)
  | [], l, b, h0, h => by
    rw [scanU] at h
    injection h with e1 e2
    subst e1 e2
    exact .inl ⟨rfl, rfl, fun x hx => by cases hx⟩
  | y :: ys, l, b, h0, h => by
    have hy := h0 y List.mem_cons_self
    rw [scanU] at h
    by_cases q1 : valL vals y < 0 ∨ y = 0
    · rw [if_pos q1] at h
      have q1 := q1.resolve_right hy
      rcases scanU_says vals ys l b (fun x hx => h0 x (List.mem_cons_of_mem _ hx)) h with ⟨g1, g2, g3⟩ | ⟨g1, g2, g3⟩ | ⟨g1, g2, g3, g4, g5⟩
      · refine .inl ⟨g1, g2, fun x hx => ?_⟩
        rcases List.mem_cons.1 hx with rfl | hx
        · exact q1
        · exact g3 x hx
      · refine .inr (.inl ⟨g1, g2, ?_⟩)
        rcases g3 with ⟨x, hx, q⟩ | ⟨x, hx, z, hz, q⟩
        · exact .inl ⟨x, List.mem_cons_of_mem _ hx, q⟩
        · exact .inr ⟨x, List.mem_cons_of_mem _ hx, z, List.mem_cons_of_mem _ hz, q⟩
      · refine .inr (.inr ⟨g1, g2, List.mem_cons_of_mem _ g3, g4, fun x hx hn => ?_⟩)
        rcases List.mem_cons.1 hx with rfl | hx
        · exact q1
        · exact g5 x hx hn
    · rw [if_neg q1] at h
      have q1' : ¬ valL vals y < 0 := fun q => q1 (.inl q)
      by_cases q2 : 0 < valL vals y
      · rw [if_pos q2] at h
        injection h with e1 e2
        exact .inr (.inl ⟨e1.symm, e2.symm, .inl ⟨y, List.mem_cons_self, q2⟩⟩)
      · rw [if_neg q2, if_neg (by omega)] at h
        obtain ⟨g1, g2⟩ := scanU_op vals hy ys l b h
        rcases g2 with ⟨g2, x, hx, q, q'⟩ | ⟨g2, g3⟩
        · exact .inr (.inl ⟨g2, g1, .inr ⟨x, List.mem_cons_of_mem _ hx, y, List.mem_cons_self, q', q, q1'⟩⟩)
        · subst g2
          refine .inr (.inr ⟨hy, g1, List.mem_cons_self, by omega, fun x hx hn => ?_⟩)
          rcases List.mem_cons.1 hx with rfl | hx
          · exact absurd rfl hn
          · exact g3 x hx hn
theorem Parts.hdr {w : World} {ok : Nat → Prop} {g : Nat} {vv vc vm : Value} {vals : List Int} {cls : List (List Int × Int × Int)} {marks : List S48} (h : Parts w ok g vv vc vm vals cls marks) (hn : 0 < cls.length) : ∃ gc cc, vc = .slice (some ⟨gc, 0, none⟩) cls.length cc := by
  obtain ⟨_, inner, ⟨_, ho⟩, _⟩ := h.rc
  rcases ho with ⟨_, h0⟩ | ⟨gc, cap, cur, e, _⟩
  · omega
  · exact ⟨gc, cap, e⟩

/-- The store within Propagate. -/
structure PI (I : List Int → List S48 → Prop) (cs : List (List Int)) (ok : Nat → Prop) (g : Nat) (w0 w : World) (vals : List Int) (cls : List (List Int × Int × Int)) (marks : List S48) : Prop where
  st : St w ok g vals cls marks
  fit : Fit vals cls marks
  cs : cls.map Prod.fst = cs
  inv : I vals marks
  rest : Rest w0 w ok
def Stepping (cs : List (List Int)) (I : List Int → List S48 → Prop) : Prop :=
  ∀ (vals : List Int) (marks : List S48) (i : Nat) (c : List Int) (l : Int), I vals marks → cs[i]? = some c → scanU vals c 0 = (l, false) → l ≠ 0 → I (markV vals l) (marks ++ [⟨l, lvl marks, (i : Int)⟩])
theorem PI.drew {I : List Int → List S48 → Prop} {cs : List (List Int)} {ok : Nat → Prop} {g : Nat} {w0 w : World} {vals : List Int} {cls : List (List Int × Int × Int)} {marks : List S48} (h : PI I cs ok g w0 w vals cls marks) (n : Nat) : PI I cs ok g w0 (w.drewN n) vals cls marks :=
  ⟨h.st.step (fun _ _ _ => rfl), h.fit, h.cs, h.inv, h.rest.drewN n⟩
theorem PI.look {I : List Int → List S48 → Prop} {cs : List (List Int)} {ok : Nat → Prop} {g : Nat} {w0 w : World} {vals : List Int} {cls : List (List Int × Int × Int)} {marks : List S48} (h : PI I cs ok g w0 w vals cls marks) {w1 : World} {vv vc vm : Value} {n : Nat} {c : List Int} {a b a' b' : Int} (hi : cls[n]? = some (c, a, b)) (hat : okAt c a' b') (hp : Parts w1 ok g vv vc vm vals (cls.set n (c, a', b')) marks) (hr : Rest w w1 ok) : PI I cs ok g w0 w1 vals (cls.set n (c, a', b')) marks :=
  ⟨⟨_, _, _, hp⟩, h.fit.look hi hat, (map_look hi a' b').trans h.cs, h.inv, h.rest.trans hr (fun _ _ q => q)⟩
theorem PI.mark {I : List Int → List S48 → Prop} {cs : List (List Int)} {ok : Nat → Prop} {g : Nat} {w0 w : World} {vals : List Int} {cls : List (List Int × Int × Int)} {marks : List S48} (h : PI I cs ok g w0 w vals cls marks) (hok : ∀ k, w0.heap.size ≤ k → ok k) (hst : Stepping cs I) {n : Nat} {c : List Int} {l y : Int} (hy : y = lvl marks) (hc : cs[n]? = some c) (hs : scanU vals c 0 = (l, false)) (hl : l ≠ 0) (h1 : -(vals.length : Int) < l) (h2 : l < (vals.length : Int)) (h0 : valL vals l = 0) {w1 : World} (hst1 : St w1 (fun k => ok k ∨ w.heap.size ≤ k) g (markV vals l) cls (marks ++ [⟨l, y, (n : Int)⟩])) (hr : Rest w w1 ok) : PI I cs ok g w0 w1 (markV vals l) cls (marks ++ [⟨l, y, (n : Int)⟩]) := by
  subst hy
  exact ⟨hst1.mono (fun k hk => hk.elim id (fun hk => hok k (Nat.le_trans h.rest.size hk))), h.fit.mark ⟨l, lvl marks, (n : Int)⟩ h1 h2 h0, h.cs, hst _ _ _ _ _ h.inv hc hs hl, h.rest.trans hr (fun _ _ q => q)⟩
set_option maxHeartbeats 16000000 in
set_option maxRecDepth 100000 in
theorem st_Propagate (I : List Int → List S48 → Prop) (cs : List (List Int)) (ok : Nat → Prop) (g : Nat) (vals : List Int) (cls : List (List Int × Int × Int)) (marks : List S48) (w : World) (hst : Stepping cs I) (hok : ∀ k, w.heap.size ≤ k → ok k) (h : PI I cs ok g w w vals cls marks) :
    Calls Try.prog 15 #[.pointer (some ⟨g, 0, none⟩)] w fun e w' => ∃ vals' cls' marks' n, e = .returned (.int .i64 n) ∧ PI I cs ok g w w' vals' cls' marks' ∧ ((n = -1 ∧ ∀ c ∈ cs, scanU vals' c 0 = (0, false)) ∨ ∃ (i : Nat) (c : List Int), n = (i : Int) ∧ cs[i]? = some c ∧ scanU vals' c 0 = (0, true)) := by
  have HST := Aside0.mk hst
  have HOK := Aside0.mk hok
  have c0 : w.cell? ⟨g, 0, none⟩ = some (.bool true) := by obtain ⟨_, _, _, q⟩ := h.st; exact q.c0
  have f0 : w.frozen? ⟨g, 0, none⟩ = false := by obtain ⟨_, _, _, q⟩ := h.st; exact q.f 0
  have H := Aside0.mk h
  clear hst hok h
  go_enter Try.func15, Try.ntmps15
  go_wp2_with (first | (go_at_call 35; refine (st_is g _ c0).mono ?_; rintro e w' ⟨rfl, rfl⟩))
  go_loopg [3] (vals.count 0) (fun kq v3 w' => ∃ (vals' : List Int) (cls' : List (List Int × Int × Int)) (marks' : List S48), vals'.count 0 = kq ∧ Aside0 (PI I cs ok g w w' vals' cls' marks'))
  case atStart => exact ⟨vals, cls, marks, rfl, H⟩
  case round =>
    obtain ⟨vals1, cls1, marks1, hk1, H1⟩ := hrel
    obtain ⟨vv, vc, vm, hp⟩ := H1.out.st
    obtain ⟨Am, cm, rfl⟩ := Kd.R_slice hp.rm
    obtain ⟨Ac, cc, rfl⟩ := Kd.R_slice hp.rc
    have c2 := hp.c2
    have c3 := hp.c3
    have f2 := hp.f 2
    have f3 := hp.f 3
    have hcap := H1.out.fit.cap
    have hsum := H1.out.fit.sum
    have hmax := H1.out.fit.v.max
    clear hp
    go_wp2
    go_loopg [20] cls1.length (fun kq v20 w2 => ∃ (n : Nat) (vals2 : List Int) (cls2 : List (List Int × Int × Int)) (marks2 : List S48), v20 = .int .i64 (n : Int) ∧ n + kq = cls1.length ∧ Aside0 (PI I cs ok g w w2 vals2 cls2 marks2 ∧ cls2.length = cls1.length ∧ ((vals2 = vals1 ∧ marks2 = marks1 ∧ ∀ (j : Nat) (c : List Int), j < n → cs[j]? = some c → scanU vals1 c 0 = (0, false)) ∨ (marks1.length < marks2.length ∧ vals2.count 0 < vals1.count 0))))
    case atStart => exact ⟨0, vals1, cls1, marks1, rfl, by omega, ⟨by first | exact H1.out | exact H1.out.drew _, rfl, .inl ⟨rfl, rfl, fun j c hj => by omega⟩⟩⟩
    case round =>
      obtain ⟨n, vals2, cls2, marks2, rfl, hnk, H2⟩ := hrel
      cases gk with
      | succ k1 =>
        obtain ⟨h2, hlen, hor⟩ := H2.out
        obtain ⟨vv, vc, vm, hp⟩ := h2.st
        obtain ⟨gc, cc, rfl⟩ := hp.hdr (by omega)
        have hlt : n < cls2.length := by omega
        obtain ⟨⟨c, a, b⟩, hi⟩ : ∃ x, cls2[n]? = some x := ⟨_, List.getElem?_eq_getElem hlt⟩
        have hmem := List.mem_of_getElem? hi
        have HV := Aside0.mk h2.fit.v
        have HI := Aside0.mk (And.intro hlt hi)
        have HLT := Aside0.mk (h2.fit.lit _ hmem)
        have HAT := Aside0.mk (h2.fit.at_ _ hmem)
        have HP := Aside0.mk hp
        have hcsn : cs[n]? = some c := by rw [← h2.cs, List.getElem?_map, hi]; rfl
        have c2' := hp.c2
        have f2' := hp.f 2
        obtain ⟨r1, r2, hsc⟩ : ∃ r1 r2, scanU vals2 c 0 = (r1, r2) := ⟨_, _, rfl⟩
        have HSC := Aside0.mk hsc
        have hlit0 : ∀ x ∈ c, litB ((vals2.length : Int) - 1) x = true := fun x hx => by
          have hl := HLT.out
          unfold litsOk at hl
          simp only [Bool.not_eq_true', List.any_eq_false] at hl
          simpa using hl x hx
        have hsay := scanU_says vals2 c r1 r2 (fun x hx => (litB_iff.1 (hlit0 x hx)).1) hsc
        have hcap2 : cls2.length ≤ 1048576 := h2.fit.cap
        clear h2 hp hmem hi hor hsc
        rcases hsay with ⟨rfl, rfl, hb⟩ | ⟨rfl, rfl, hb⟩ | ⟨hr0, rfl, hb⟩
        · clear hb
          go_wp2_with (first | (go_at_call 36; refine (st_look ok g gc cc vv vm vals2 cls2 marks2 n c a b _ HP.out HV.out HI.out.1 HI.out.2 HLT.out HAT.out).mono ?_; rw [HSC.out]; rintro e w3 ⟨rfl, ⟨a', b', hat', hp3⟩, hr3⟩; have HQ := Aside0.mk (H2.out.1.look HI.out.2 hat' hp3 hr3); clear hat' hp3 hr3))
          go_ret
          exact ⟨vals2, _, marks2, n, rfl, HQ.out, .inr ⟨n, c, rfl, hcsn, HSC.out⟩⟩
        · clear hb
          go_wp2_with (first | (go_at_call 36; refine (st_look ok g gc cc vv vm vals2 cls2 marks2 n c a b _ HP.out HV.out HI.out.1 HI.out.2 HLT.out HAT.out).mono ?_; rw [HSC.out]; rintro e w3 ⟨rfl, ⟨a', b', hat', hp3⟩, hr3⟩; have HQ := Aside0.mk (H2.out.1.look HI.out.2 hat' hp3 hr3); clear hat' hp3 hr3))
          go_roundg k1
          case measure => omega
          case rel =>
            refine ⟨n + 1, vals2, _, marks2, by go_num, by omega, ⟨HQ.out, by rw [List.length_set]; exact hlen, ?_⟩⟩
            rcases H2.out.2.2 with ⟨e1, e2, hall⟩ | q
            · refine .inl ⟨e1, e2, fun j c' hj hc' => ?_⟩
              by_cases hjn : j = n
              · subst hjn
                obtain rfl : c' = c := Option.some.inj (hc'.symm.trans hcsn)
                rw [← e1]; exact HSC.out
              · exact hall j c' (by omega) hc'
            · exact .inr q
        · have HB0 := Aside0.mk hb.2.1
          have HB1 : Aside0 (-(vals2.length : Int) < r1 ∧ r1 < (vals2.length : Int)) := ⟨by have := litB_iff.1 (hlit0 r1 hb.1); omega⟩
          have HCS := Aside0.mk hcsn
          have HL : Aside0 (marks2.length ≤ 4194304) := ⟨by have h1 := H2.out.1.fit.sum; have h2 := H2.out.1.fit.v.max; omega⟩
          have HVL := Aside0.mk HV.out.max
          obtain ⟨y, hy⟩ : ∃ y, y = lvl marks2 := ⟨_, rfl⟩
          have HY := Aside0.mk hy
          have dr0 : (r1 != 0) = true := by rw [bne_iff_ne]; exact hr0
          clear hb hy
          go_wp2_with (first | (go_at_call 36; refine (st_look ok g gc cc vv vm vals2 cls2 marks2 n c a b _ HP.out HV.out HI.out.1 HI.out.2 HLT.out HAT.out).mono ?_; rw [HSC.out]; rintro e w3 ⟨rfl, ⟨a', b', hat', hp3⟩, hr3⟩; have HQ := Aside0.mk (H2.out.1.look HI.out.2 hat' hp3 hr3); clear hat' hp3 hr3) | (go_at_call 14; refine (st_Level ok g vals2 _ marks2 _ HQ.out.st).mono ?_; rw [← HY.out]; rintro e w4 ⟨rfl, ⟨nd, rfl⟩⟩) | (go_at_call 37; refine (st_mark ok g vals2 _ marks2 ⟨r1, y, (n : Int)⟩ _ (HQ.out.drew nd).st HB1.out.1 HB1.out.2 HL.out HVL.out).mono ?_; rintro e w5 ⟨rfl, hs5, hr5⟩; have HZ := Aside0.mk ((HQ.out.drew nd).mark HOK.out HST.out HY.out HCS.out HSC.out hr0 HB1.out.1 HB1.out.2 HB0.out hs5 hr5); clear hs5 hr5))
          go_roundg k1
          case measure => omega
          case rel =>
            refine ⟨n + 1, _, _, _, by go_num, by omega, ⟨HZ.out, by rw [List.length_set]; exact hlen, .inr ?_⟩⟩
            have hcn := markV_count HB1.out.1 HB1.out.2 HB0.out
            rw [List.length_append, List.length_singleton]
            rcases H2.out.2.2 with ⟨e1, e2, _⟩ | ⟨q1, q2⟩
            · subst e1 e2; omega
            · omega
      | zero =>
        obtain ⟨h2, hlen, hor⟩ := H2.out
        obtain ⟨vv, vc, vm, hp⟩ := h2.st
        obtain ⟨Am, cm, rfl⟩ := Kd.R_slice hp.rm
        have c3' := hp.c3
        have f3' := hp.f 3
        clear h2 hp hor
        by_cases hm : marks2.length = marks1.length
        · have dm : ((marks2.length : Int) == (marks1.length : Int)) = true := by rw [beq_iff_eq]; omega
          go_wp2
          go_ret
          refine ⟨vals2, cls2, marks2, -1, rfl, H2.out.1, .inl ⟨rfl, fun c hc => ?_⟩⟩
          rcases H2.out.2.2 with ⟨e1, e2, hall⟩ | ⟨q, _⟩
          · obtain ⟨j, hj⟩ := List.mem_iff_getElem?.1 hc
            have hjl := (List.getElem?_eq_some_iff.1 hj).1
            have hcl : cs.length = cls2.length := by rw [← H2.out.1.cs, List.length_map]
            rw [e1]; exact hall j c (by omega) hj
          · omega
        · have dm : ((marks2.length : Int) == (marks1.length : Int)) = false := by rw [beq_eq_false_iff_ne]; omega
          go_wp2
          go_roundg (vals2.count 0)
          case measure =>
            rcases H2.out.2.2 with ⟨e1, e2, hall⟩ | ⟨q, q2⟩
            · exact absurd (by rw [e2]) hm
            · omega
          case rel => exact ⟨vals2, cls2, marks2, rfl, ⟨H2.out.1⟩⟩

set_option maxHeartbeats 2000000 in
theorem st_Marks (ok : Nat → Prop) (g : Nat) (vals : List Int) (cls : List (List Int × Int × Int)) (marks : List S48) (w : World) (h : St w ok g vals cls marks) (hm : marks.length ≤ 4194304) :
    Calls Try.prog 20 #[.pointer (some ⟨g, 0, none⟩)] w fun e w' => ∃ v0_ : Value, e = .returned v0_ ∧ Kd.R k48 48 w' w.heap.size (fun _ => True) v0_ marks ∧ Below w.heap.size w w' := by
  have c0 : w.cell? ⟨g, 0, none⟩ = some (.bool true) := by obtain ⟨_, _, _, q⟩ := h; exact q.c0
  obtain ⟨vv, vc, vm, hp⟩ := h
  obtain ⟨A, c, rfl⟩ := Kd.R_slice hp.rm
  have c3 := hp.c3
  have f3 := hp.f 3
  have HR := Aside0.mk (Kd.R_reads' hp.rm)
  have HM := Aside0.mk hm
  clear hp hm
  go_enter Try.func20, Try.ntmps20
  go_wp2_with (first | (go_at_call 35; refine (st_is g _ c0).mono ?_; rintro e w' ⟨rfl, rfl⟩) | (go_at_call 40; refine (clone_marks A c marks _ HR.out.2.2 HM.out).mono ?_; rintro e w' ⟨v, rfl, hv, hb⟩; have HV := Aside0.mk (And.intro hv hb); clear hv hb))
  go_ret
  exact ⟨v, rfl, HV.out.1, HV.out.2⟩

theorem info_clause : (Try.prog.info? 34).map (fun i => (i.zero, i.size, i.bytes)) = some (some (.slice none 0 0), 1, 24) := by kernel_rfl
theorem kS_mkM {w : World} {base : Nat} {ok : Nat → Prop} {v : Value} {l : List Int} (h : Kd.R (Kd.int .i64) 3 w base ok v l) : (Kd.slice 3 (Kd.int .i64)).M w base ok l [v] := ⟨v, rfl, h⟩
set_option maxHeartbeats 4000000 in
set_option maxRecDepth 100000 in
theorem st_Clauses (ok : Nat → Prop) (g : Nat) (vals : List Int) (cls : List (List Int × Int × Int)) (marks : List S48) (w : World) (h : St w ok g vals cls marks) (hcap : cls.length ≤ 1048576) (hlen : ∀ x ∈ cls, x.1.length ≤ 4194304) :
    Calls Try.prog 19 #[.pointer (some ⟨g, 0, none⟩)] w fun e w' => ∃ v0_ : Value, e = .returned v0_ ∧ Kd.R (Kd.slice 3 (Kd.int .i64)) 34 w' w.heap.size (fun _ => True) v0_ (cls.map Prod.fst) ∧ Below w.heap.size w w' := by
  have c0 : w.cell? ⟨g, 0, none⟩ = some (.bool true) := by obtain ⟨_, _, _, q⟩ := h; exact q.c0
  obtain ⟨vv, vc, vm, hp⟩ := h
  obtain ⟨A, c, rfl⟩ := Kd.R_slice hp.rc
  have c2 := hp.c2
  have f2 := hp.f 2
  have HP := Aside0.mk hp
  have HLEN := Aside0.mk hlen
  clear hp hlen
  go_enter Try.func19, Try.ntmps19
  go_wp2_with (first | (go_at_call 35; refine (st_is g _ c0).mono ?_; rintro e w' ⟨rfl, rfl⟩))
  go_loopg [3, 14] cls.length (fun kq v3 v14 w' => ∃ n : Nat, v14 = .int .i64 (n : Int) ∧ n + kq = cls.length ∧ Aside0 (Kd.R (Kd.slice 3 (Kd.int .i64)) 34 w' w.heap.size (fun _ => True) v3 ((cls.map Prod.fst).take n) ∧ Below w.heap.size w w'))
  case atStart => exact ⟨0, rfl, by omega, ⟨Kd.R_nil _ _ _ _ _, by first | exact Below.refl _ _ | exact pw_below_drewN (Below.refl _ _) _⟩⟩
  case round =>
    obtain ⟨n, rfl, hnk, H2⟩ := hrel
    cases gk with
    | succ k1 =>
      have hlt : n < cls.length := by omega
      obtain ⟨gc, cc, hAc⟩ := HP.out.hdr (by omega)
      injection hAc with hA1 hA2 hA3
      subst hA1
      obtain ⟨⟨cl, a, b⟩, hi⟩ : ∃ x, cls[n]? = some x := ⟨_, List.getElem?_eq_getElem hlt⟩
      have hmem := List.mem_of_getElem? hi
      have HLN := Aside0.mk (HLEN.out _ hmem)
      have hp := HP.out.step (w1 := wr) (fun k _ hk => H2.out.2.block k hk)
      obtain ⟨⟨Ax, kx, x0, hC⟩, x1, x2, hfr, _, _, _⟩ := hp.putw hlt hi
      have HC := Aside0.mk hC
      have f0' := hfr 0
      have f1' := hfr 1
      have f2' := hfr 2
      have htk : (cls.map Prod.fst).take (n + 1) = (cls.map Prod.fst).take n ++ [cl] := by
        rw [List.take_add_one, List.getElem?_map, hi]; rfl
      obtain ⟨xs, hxs⟩ : ∃ xs, xs = (cls.map Prod.fst).take n := ⟨_, rfl⟩
      have hxl : xs.length = n := by rw [hxs, List.length_take, List.length_map]; omega
      rw [← hxs] at H2 htk
      obtain ⟨A3, c3, rfl⟩ := Kd.R_slice H2.out.1
      have h3 : ∀ k, Value.ownBlock (.slice A3 xs.length c3) = some k → k < wr.heap.size := fun k hk => Kd.R_lt H2.out.1 k hk
      have H3 := Aside0.mk h3
      have HTK := Aside0.mk htk
      have HXL := Aside0.mk hxl
      clear hp hC hmem hfr htk hA2 hA3 h3 hxs hxl
      go_wp2_with (first | (go_at_call 39; refine (clone_ints Ax kx cl _ (Kd.C_below HC.out (by repeat (first | exact Below.refl _ _ | apply below_alloc | apply pw_below_drewN | apply below_drew1))) HLN.out).mono ?_; rintro e w4 ⟨v4, rfl, ho4, hb4⟩; obtain ⟨A4, c4, rfl⟩ := Kd.R_slice ho4; have hB4 : Below wr.heap.size wr w4 := below_step (by repeat (first | exact Below.refl _ _ | apply below_alloc | apply pw_below_drewN | apply below_drew1)) hb4; have HB4 := Aside0.mk (below_step H2.out.2 hB4); have HO4 := Aside0.mk (Kd.R_mono (Kd.R_lower (Kd.R_bound ho4) (Nat.le_trans H2.out.2.size (by first | exact Nat.le_refl _ | exact (below_alloc (Below.refl wr.heap.size wr) _).size | simp))) (ok' := fun k => wr.heap.size ≤ k) (fun k hk => by have := hk.2.1; simp at this; omega)); have HO3 := Aside0.mk (Kd.R_below H2.out.1 hB4); have HS4 := Aside0.mk hB4.size; clear ho4 hb4 hB4) | ((with_reducible refine gate_builtin (b := .append) (xs := #[.tmp 18, .tmp 22]) rfl ?_); at_builtin; refine Kd.R_append (Kd.slice 3 (Kd.int .i64)) (w0 := w) w.heap.size rfl (.tmp 18) (.tmp 22) 31 34 (.slice none 0 0) 24 rfl Try.underlying31 info_clause rfl (by decide) (by omega) (.slice A3 xs.length c3) xs cl [.slice A4 cl.length c4] (fun _ => True) (fun k => wr.heap.size ≤ k) rfl rfl ?aP ?aK ?aF ?aO ?aB ?aS ?aL ?_; (case aP => exact kS_mkM HO4.out); (case aK => exact fun k hk => ⟨trivial, fun e => by have := H3.out k e.symm; omega⟩); (case aF => exact fun _ _ => trivial); (case aO => exact HO3.out); (case aB => exact HB4.out); (case aS => exact HB4.out.size); (case aL => have := HXL.out; omega); intro v5 w5 ho hb hg hat; rw [← HTK.out] at ho; have HZ := Aside0.mk (And.intro ho hb); clear ho hb hg hat))
      go_roundg k1
      case measure => omega
      case rel => exact ⟨n + 1, by go_num, by omega, HZ⟩
    | zero =>
      obtain rfl : n = cls.length := by omega
      go_wp2
      go_ret
      have h5 := H2.out.1
      rw [List.take_of_length_le (by simp)] at h5
      exact ⟨_, rfl, h5, H2.out.2⟩

def addAll (vals : List Int) (l : List (List Int)) : List (List Int × Int × Int) := (l.filter (fun c => litsOk vals c)).map (fun c => (c, 0, 0))
def decU (s : List Int × List S48) (lit : Int) : List Int × List S48 :=
  if litB ((s.1.length : Int) - 1) lit = true ∧ valL s.1 lit = 0 then (markV s.1 lit, s.2 ++ [⟨lit, lvl s.2 + 1, -1⟩]) else s
theorem addAll_len (vals : List Int) (l : List (List Int)) : (addAll vals l).length ≤ l.length := by
  unfold addAll; rw [List.length_map]; exact List.length_filter_le _ _
theorem take_rd2 {l : List (List Int)} {i : Nat} (h : i < l.length) : l.take (i + 1) = l.take i ++ [rd_L2 l (i : Int)] := by
  rw [List.take_add_one, List.getElem?_eq_getElem h]
  simp [rd_L2, List.getD_eq_getElem?_getD, List.getElem?_eq_getElem h]
theorem take_rd {l : List Int} {i : Nat} (h : i < l.length) : l.take (i + 1) = l.take i ++ [rd l (i : Int)] := by
  rw [List.take_add_one, rd_get h]; rfl
theorem lvl_snoc (marks : List S48) (m : S48) : lvl (marks ++ [m]) = m.f1 := by
  unfold lvl
  rw [if_neg (by simp)]
  have : rd_T48 (marks ++ [m]) (((marks ++ [m]).length : Int) - 1) = m := by
    rw [List.length_append, List.length_singleton]
    have : (((marks.length + 1 : Nat) : Int) - 1) = (marks.length : Int) := by omega
    rw [this]
    simp [rd_T48, List.getD_eq_getElem?_getD]
  rw [this]
theorem fit0 {n : Int} (h0 : 0 ≤ n) (h1 : n ≤ 262144) {l : List (List Int)} (hl : l.length < 1048576) : Fit (List.replicate (n + 1).toNat 0) (addAll (List.replicate (n + 1).toNat 0) l) [] := by
  refine ⟨⟨by simp; omega, by simp; omega, fun x hx => by have := List.eq_of_mem_replicate hx; omega⟩, fun x hx => ?_, fun x hx => ?_, Nat.le_trans (addAll_len _ _) (by omega), by simp⟩
  · obtain ⟨c, hc, rfl⟩ := List.mem_map.1 hx
    exact (List.mem_filter.1 hc).2
  · obtain ⟨c, hc, rfl⟩ := List.mem_map.1 hx
    intro h
    dsimp only at h ⊢
    omega
set_option maxHeartbeats 4000000 in
set_option maxRecDepth 100000 in
theorem st_made (n : Int) (A0 : Option Addr) (c0 : Nat) (l0 : List (List Int)) (A1 : Option Addr) (c1 : Nat) (l1 : List Int) (w : World) (h0 : 0 ≤ n) (h1 : n ≤ 262144)
    (hr0 : Kd.C (Kd.slice 3 (Kd.int .i64)) w A0 l0.length l0) (hr1 : Kd.C (Kd.int .i64) w A1 l1.length l1) (hl0 : l0.length < 1048576) (hl1 : ∀ c ∈ l0, c.length ≤ 4194304) (hl2 : l1.length ≤ 1048576) :
    Calls Try.prog 16 #[.int .i64 n, .slice A0 l0.length c0, .slice A1 l1.length c1] w fun e w' => ∃ g vals marks, e = .returned (.pointer (some ⟨g, 0, none⟩)) ∧ (vals, marks) = l1.foldl decU (List.replicate (n + 1).toNat 0, []) ∧
      St w' (fun k => w.heap.size ≤ k) g vals (addAll (List.replicate (n + 1).toNat 0) l0) marks ∧ Fit vals (addAll (List.replicate (n + 1).toNat 0) l0) marks ∧ Below w.heap.size w w' := by
  have HR0 := Aside0.mk hr0
  have HR1 := Aside0.mk hr1
  have HL := Aside0.mk (And.intro hl0 hl1)
  have h01 := h0
  have h11 := h1
  have HN := Aside0.mk (And.intro h0 h1)
  clear hr0 hr1 hl1 h01 h11
  go_enter Try.func16, Try.ntmps16
  go_wp2_with (first | (go_at_call 10; refine (st_New n _ h0 h1).mono ?_; rintro e w1 ⟨g, rfl, hst, hb⟩; have H1 := Aside0.mk (And.intro hst hb); clear hst hb))
  obtain ⟨vals0, hv0⟩ : ∃ v, v = List.replicate (n + 1).toNat (0 : Int) := ⟨_, rfl⟩
  rw [← hv0] at H1
  have HV0 := Aside0.mk hv0
  have HF0 : Aside0 (∀ l : List (List Int), l.length < 1048576 → Fit vals0 (addAll vals0 l) []) := ⟨fun l hl => by rw [hv0]; exact fit0 h0 h1 hl⟩
  clear h0 h1 hv0
  go_loopg [9] l0.length (fun kq v9 w' => ∃ i : Nat, v9 = .int .i64 (i : Int) ∧ i + kq = l0.length ∧ Aside0 (St w' (fun k => w.heap.size ≤ k) g vals0 (addAll vals0 (l0.take i)) [] ∧ Below w.heap.size w w'))
  case atStart => exact ⟨0, rfl, by omega, ⟨by simpa [addAll] using H1.out.1, H1.out.2⟩⟩
  case round =>
    obtain ⟨i, rfl, hik, H2⟩ := hrel
    cases gk with
    | succ k1 =>
      have hlt : i < l0.length := by omega
      obtain ⟨ad, Ax, cx, rfl, hxc, hcx, hxC⟩ := at_L2 (Kd.C_below HR0.out H2.out.2) (i : Int) (by omega) (by omega)
      rw [Int.toNat_natCast] at hxc
      obtain ⟨c, hc⟩ : ∃ c, c = rd_L2 l0 (i : Int) := ⟨_, rfl⟩
      have htk := take_rd2 hlt
      rw [← hc] at hxc hcx hxC htk
      have hcm : c ∈ l0 := by
        have : c ∈ l0.take (i + 1) := by rw [htk]; simp
        exact List.mem_of_mem_take this
      have HCL := Aside0.mk (HL.out.2 c hcm)
      have HXC := Aside0.mk hxC
      have HTK := Aside0.mk htk
      have hlen : (addAll vals0 (l0.take i)).length < 1048576 := by
        have h5 := addAll_len vals0 (l0.take i)
        have h6 := HL.out.1
        rw [List.length_take] at h5
        omega
      have HLN := Aside0.mk hlen
      have HVV := Aside0.mk (HF0.out [] (by simp)).v
      clear hc hcx hxC htk hcm hlen
      by_cases hb : litsOk vals0 c = true
      · have HB := Aside0.mk hb
        clear hb
        go_wp2_with (first | (go_at_call 25; refine (st_Add (fun k => w.heap.size ≤ k) g vals0 _ [] Ax cx c _ HXC.out H2.out.1 HVV.out HB.out HLN.out HCL.out).mono ?_; rintro e w4 ⟨rfl, hs4, hr4⟩; have H4 := Aside0.mk (And.intro hs4 hr4); clear hs4 hr4))
        go_roundg k1
        case measure => omega
        case rel =>
          refine ⟨i + 1, by go_num, by omega, ⟨?_, H4.out.2.below H2.out.2 (fun _ h => h)⟩⟩
          have e5 : addAll vals0 (l0.take (i + 1)) = addAll vals0 (l0.take i) ++ [(c, 0, 0)] := by
            rw [HTK.out]; unfold addAll; rw [List.filter_append, List.map_append]; simp [HB.out]
          rw [e5]
          exact H4.out.1.mono (fun k hk => hk.elim id (fun hk => Nat.le_trans H2.out.2.size hk))
      · have hb' : litsOk vals0 c = false := by simpa using hb
        have HB := Aside0.mk hb'
        clear hb hb'
        go_wp2_with (first | (go_at_call 25; refine (st_Add_bad (fun k => w.heap.size ≤ k) g vals0 _ [] Ax cx c _ HXC.out H2.out.1 HVV.out HB.out).mono ?_; rintro e w4 ⟨rfl, hb4⟩; have H4 := Aside0.mk hb4; clear hb4))
        go_roundg k1
        case measure => omega
        case rel =>
          refine ⟨i + 1, by go_num, by omega, ⟨?_, below_step H2.out.2 H4.out⟩⟩
          have e5 : addAll vals0 (l0.take (i + 1)) = addAll vals0 (l0.take i) := by
            rw [HTK.out]; unfold addAll; rw [List.filter_append, List.map_append]; simp [HB.out]
          rw [e5]
          exact H2.out.1.below H4.out
    | zero =>
      obtain rfl : i = l0.length := by omega
      have H3 : Aside0 (St wr (fun k => w.heap.size ≤ k) g vals0 (addAll vals0 l0) [] ∧ Below w.heap.size w wr) := ⟨by have := H2.out; rwa [List.take_length] at this⟩
      clear H2 H1
      go_wp2
      go_loopg [10] l1.length (fun kq v10 w' => ∃ (i : Nat) (vals : List Int) (marks : List S48), v10 = .int .i64 (i : Int) ∧ i + kq = l1.length ∧ Aside0 ((vals, marks) = (l1.take i).foldl decU (vals0, []) ∧ St w' (fun k => w.heap.size ≤ k) g vals (addAll vals0 l0) marks ∧ Fit vals (addAll vals0 l0) marks ∧ lvl marks = marks.length ∧ Below w.heap.size w w'))
      case atStart => exact ⟨0, vals0, [], rfl, by omega, ⟨rfl, H3.out.1, HF0.out _ HL.out.1, rfl, H3.out.2⟩⟩
      case round =>
        obtain ⟨i, vals, marks, rfl, hik, H2⟩ := hrel
        cases gk with
        | succ k1 =>
          have hlt : i < l1.length := by omega
          obtain ⟨ad, rfl, hx⟩ := Kd.at_int (Kd.C_below HR1.out H2.out.2.2.2.2) (i : Int) (by omega) (by omega)
          rw [Int.toNat_natCast] at hx
          have htk := take_rd hlt
          obtain ⟨x, hxe⟩ : ∃ x, x = rd l1 (i : Int) := ⟨_, rfl⟩
          rw [← hxe] at hx htk
          have hstep : (l1.take (i + 1)).foldl decU (vals0, []) = decU (vals, marks) x := by rw [htk, List.foldl_append, ← H2.out.1]; rfl
          have HTK := Aside0.mk hstep
          have hml : marks.length ≤ 4194304 := by have h5 := H2.out.2.2.1.sum; have h6 := H2.out.2.2.1.v.max; omega
          have HML := Aside0.mk hml
          clear hxe htk hstep hml
          by_cases hb : litB ((vals.length : Int) - 1) x = true
          · have HB := Aside0.mk hb
            by_cases hz : valL vals x = 0
            · have HZ := Aside0.mk hz
              have HLV : Aside0 (0 ≤ lvl marks ∧ lvl marks ≤ 4194304) := ⟨by rw [H2.out.2.2.2.1]; have := HML.out; omega⟩
              clear hb hz
              go_wp2_with (first | (go_at_call 27; refine (st_Decide (fun k => w.heap.size ≤ k) g vals _ marks x _ H2.out.2.1 H2.out.2.2.1.v HB.out HZ.out HML.out HLV.out).mono ?_; rintro e w4 ⟨rfl, hs4, hr4⟩; have H4 := Aside0.mk (And.intro hs4 hr4); clear hs4 hr4))
              go_roundg k1
              case measure => omega
              case rel =>
                refine ⟨i + 1, _, _, by go_num, by omega, ⟨?_, H4.out.1.mono (fun k hk => hk.elim id (fun hk => Nat.le_trans H2.out.2.2.2.2.size hk)), ?_, ?_, H4.out.2.below H2.out.2.2.2.2 (fun _ h => h)⟩⟩
                · rw [HTK.out]; unfold decU; rw [if_pos ⟨HB.out, HZ.out⟩]
                · have := litB_iff.1 HB.out
                  exact H2.out.2.2.1.mark ⟨x, lvl marks + 1, -1⟩ (by dsimp only; omega) (by dsimp only; omega) HZ.out
                · rw [lvl_snoc, H2.out.2.2.2.1]; simp
            · have HZ := Aside0.mk hz
              clear hb hz
              go_wp2_with (first | (go_at_call 27; refine (st_Decide_trail (fun k => w.heap.size ≤ k) g vals _ marks x _ H2.out.2.1 H2.out.2.2.1.v HB.out HZ.out).mono ?_; rintro e w4 ⟨rfl, rfl⟩))
              go_roundg k1
              case measure => omega
              case rel => exact ⟨i + 1, vals, marks, by go_num, by omega, ⟨by rw [HTK.out]; unfold decU; rw [if_neg (fun h => HZ.out h.2)], H2.out.2⟩⟩
          · have HB := Aside0.mk (show litB ((vals.length : Int) - 1) x = false by simpa using hb)
            clear hb
            go_wp2_with (first | (go_at_call 27; refine (st_Decide_arg (fun k => w.heap.size ≤ k) g vals _ marks x _ H2.out.2.1 H2.out.2.2.1.v HB.out).mono ?_; rintro e w4 ⟨rfl, rfl⟩))
            go_roundg k1
            case measure => omega
            case rel => exact ⟨i + 1, vals, marks, by go_num, by omega, ⟨by rw [HTK.out]; unfold decU; rw [if_neg (fun h => by have := HB.out; rw [this] at h; exact absurd h.1 (by simp))], H2.out.2⟩⟩
        | zero =>
          obtain rfl : i = l1.length := by omega
          have H5 := H2.out
          rw [List.take_length] at H5
          have H6 := Aside0.mk H5
          clear H2 H5
          go_wp2
          go_ret
          exact ⟨g, vals, marks, rfl, by rw [← HV0.out]; exact H6.out.1, by rw [← HV0.out]; exact H6.out.2.1, by rw [← HV0.out]; exact H6.out.2.2.1, H6.out.2.2.2.2⟩

end Go.Proofs.Ytegaaobiedfjcaa.PU
