import Derived.Test.YtegaaobiedfjcaaStE
import Derived.Deep.RegionWith
namespace Go.Proofs.Ytegaaobiedfjcaa.PU
open Go.RowKit Go.Proofs.YtegaaobiedfjcaaW.PrintWords Go.Proofs.YtegaaobiedfjcaaW.PrintLast Go.Proofs.YtegaaobiedfjcaaW.PrintMore Go.Proofs.YtegaaobiedfjcaaH
set_option linter.unusedVariables false
set_option linter.unusedSimpArgs false
theorem fixed_C {α : Type} {d : Kd α} {w0 w : World} {A : Option Addr} {n : Nat} {xs : List α} (h : (Kd.fixed d w0).C w A n xs) (hb : Below w0.heap.size w0 w) : d.C w A n xs := by
  unfold Kd.C at h ⊢
  exact h.imp_ (Below.refl _ _) (fun _ _ hp => d.K_below hb hp)
def csOf (n : Int) (l : List (List Int)) : List (List Int) := l.filter (fun c => litsOk (List.replicate (n + 1).toNat 0) c)
theorem addAll_fst (n : Int) (l : List (List Int)) : (addAll (List.replicate (n + 1).toNat 0) l).map Prod.fst = csOf n l := by
  unfold addAll csOf
  rw [List.map_map]
  exact List.map_id' _
theorem csOf_lits {n : Int} {l : List (List Int)} : LitsIn (n + 1).toNat (csOf n l) := by
  intro c hc x hx
  have h1 := (List.mem_filter.1 hc).2
  unfold litsOk at h1
  simp only [Bool.not_eq_true', List.any_eq_false] at h1
  have h2 := litB_iff.1 (by simpa using h1 x hx)
  omega
/-- A store behind made. -/
structure Made (n : Int) (l : List (List Int)) (ok : Nat → Prop) (g : Nat) (w : World) (vals : List Int) (marks : List S48) : Prop where
  st : St w ok g vals (addAll (List.replicate (n + 1).toNat 0) l) marks
  fit : Fit vals (addAll (List.replicate (n + 1).toNat 0) l) marks
  t : TInv (n + 1).toNat vals marks
theorem made_any (n : Int) (A0 : Option Addr) (c0 : Nat) (l0 : List (List Int)) (A1 : Option Addr) (c1 : Nat) (l1 : List Int) (w : World) (h0 : 0 ≤ n) (h1 : n ≤ 262144)
    (hr0 : Kd.C (Kd.slice 3 (Kd.int .i64)) w A0 l0.length l0) (hr1 : Kd.C (Kd.int .i64) w A1 l1.length l1) (hl0 : l0.length < 1048576) (hl1 : ∀ c ∈ l0, c.length ≤ 4194304) (hl2 : l1.length ≤ 1048576) (vm : List Int × List S48) (hvm : vm = l1.foldl decU (List.replicate (n + 1).toNat 0, [])) :
    Calls Try.prog 16 #[.int .i64 n, .slice A0 l0.length c0, .slice A1 l1.length c1] w fun e w' => ∃ g, e = .returned (.pointer (some ⟨g, 0, none⟩)) ∧ Made n l0 (fun k => w.heap.size ≤ k) g w' vm.1 vm.2 ∧ Below w.heap.size w w' := by
  refine (st_made n A0 c0 l0 A1 c1 l1 w h0 h1 hr0 hr1 hl0 hl1 hl2).mono ?_
  rintro e w' ⟨g, vals, marks, rfl, hf, hst, hfit, hb⟩
  rw [← hvm] at hf
  subst hf
  exact ⟨g, rfl, ⟨hst, hfit, by rw [hvm]; exact TInv.decides l1 _ (TInv.start _)⟩, hb⟩
theorem Made.pi {n : Int} {l : List (List Int)} {ok ok' : Nat → Prop} {g : Nat} {w w' : World} {vals : List Int} {marks : List S48} (h : Made n l ok g w vals marks) (hm : ∀ k, ok k → k < w.heap.size → w'.heap[k]? = w.heap[k]?) (hk : ∀ k, ok k → k < w.heap.size → ok' k) : PI (DInv (n + 1).toNat (csOf n l) vals) (csOf n l) ok' g w' w' vals (addAll (List.replicate (n + 1).toNat 0) l) marks :=
  ⟨(h.st.bound.step (fun k q _ => hm k q.1 q.2)).mono (fun k q => hk k q.1 q.2), h.fit, addAll_fst n l, DInv.start h.t, Rest.refl _ _⟩
/-- How a run of Propagate ended. -/
def Ended (n : Int) (cs : List (List Int)) (vals : List Int) : Prop := (n = -1 ∧ allFine vals cs) ∨ ∃ (i : Nat) (c : List Int), n = (i : Int) ∧ cs[i]? = some c ∧ scanU vals c 0 = (0, true)
theorem prop_any (N : Nat) (cs : List (List Int)) (V0 : List Int) (hcs : LitsIn N cs) (ok : Nat → Prop) (g : Nat) (vals : List Int) (cls : List (List Int × Int × Int)) (marks : List S48) (w : World) (hok : ∀ k, w.heap.size ≤ k → ok k) (h : PI (DInv N cs V0) cs ok g w w vals cls marks) :
    Calls Try.prog 15 #[.pointer (some ⟨g, 0, none⟩)] w fun e w' => ∃ n vals' cls' marks', e = .returned (.int .i64 n) ∧ PI (DInv N cs V0) cs ok g w w' vals' cls' marks' ∧ Ended n cs vals' := by
  refine (st_Propagate (DInv N cs V0) cs ok g vals cls marks w (DInv.step hcs) hok h).mono ?_
  rintro e w' ⟨vals', cls', marks', n, rfl, hpi, hor⟩
  exact ⟨n, vals', cls', marks', rfl, hpi, hor⟩
/-- Two stores behind their runs. -/
structure Two (N : Nat) (ca cb : List (List Int)) (V0 : List Int) (ga gb : Nat) (w : World) (va vb : List Int) (cla clb : List (List Int × Int × Int)) (ma mb : List S48) : Prop where
  sa : ∃ ok, St w ok ga va cla ma
  sb : ∃ ok, St w ok gb vb clb mb
  fa : Fit va cla ma
  fb : Fit vb clb mb
  ea : cla.map Prod.fst = ca
  eb : clb.map Prod.fst = cb
  da : DInv N ca V0 va ma
  db : DInv N cb V0 vb mb
  la : LitsIn N ca
  lb : LitsIn N cb
  ha : ∀ c ∈ ca, c.length ≤ 4194304
  hb : ∀ c ∈ cb, c.length ≤ 4194304
  ab : ∀ c, c ∈ ca ↔ c ∈ cb
  hN : N ≤ 262145
theorem Two.below {N : Nat} {ca cb : List (List Int)} {V0 : List Int} {ga gb : Nat} {w w' : World} {va vb : List Int} {cla clb : List (List Int × Int × Int)} {ma mb : List S48} (h : Two N ca cb V0 ga gb w va vb cla clb ma mb) (hb : Below w.heap.size w w') : Two N ca cb V0 ga gb w' va vb cla clb ma mb := by
  obtain ⟨oka, sa⟩ := h.sa
  obtain ⟨okb, sb⟩ := h.sb
  exact ⟨⟨oka, sa.below hb⟩, ⟨okb, sb.below hb⟩, h.fa, h.fb, h.ea, h.eb, h.da, h.db, h.la, h.lb, h.ha, h.hb, h.ab, h.hN⟩
theorem Two.mla {N : Nat} {ca cb : List (List Int)} {V0 : List Int} {ga gb : Nat} {w : World} {va vb : List Int} {cla clb : List (List Int × Int × Int)} {ma mb : List S48} (h : Two N ca cb V0 ga gb w va vb cla clb ma mb) : ma.length ≤ 4194304 ∧ mb.length ≤ 4194304 := by
  have h1 := h.fa.sum
  have h2 := h.fa.v.max
  have h3 := h.fb.sum
  have h4 := h.fb.v.max
  omega
theorem Two.lca {N : Nat} {ca cb : List (List Int)} {V0 : List Int} {ga gb : Nat} {w : World} {va vb : List Int} {cla clb : List (List Int × Int × Int)} {ma mb : List S48} (h : Two N ca cb V0 ga gb w va vb cla clb ma mb) : ca.length ≤ 1048576 ∧ cb.length ≤ 1048576 := by
  refine ⟨?_, ?_⟩
  · rw [← h.ea, List.length_map]; exact h.fa.cap
  · rw [← h.eb, List.length_map]; exact h.fb.cap
/-- The end of both runs. -/
theorem Two.ends {N : Nat} {ca cb : List (List Int)} {V0 : List Int} {ga gb : Nat} {w : World} {va vb : List Int} {cla clb : List (List Int × Int × Int)} {ma mb : List S48} (h : Two N ca cb V0 ga gb w va vb cla clb ma mb) {x y : Int} (hx : Ended x ca va) (hy : Ended y cb vb) :
    (x = -1 ∧ y = -1 ∧ ∃ k, fulcrumref20_SameTrue.f k ma mb = some true ∧ fulcrumref20_Rest.f k ca ma = some true) ∨
    ∃ (i j : Nat) (c d : List Int), x = (i : Int) ∧ y = (j : Int) ∧ ca[i]? = some c ∧ cb[j]? = some d ∧ ∃ k, fulcrumref20_Broken.f k c ma = some true ∧ fulcrumref20_Broken.f k d mb = some true := by
  have hm := h.mla
  have hc := h.lca
  have hN := h.hN
  rcases hx with ⟨rfl, hxa⟩ | ⟨i, c, rfl, hi, hs⟩
  · rcases hy with ⟨rfl, hyb⟩ | ⟨j, d, rfl, hj, ht⟩
    · refine .inl ⟨rfl, rfl, ?_⟩
      have h1 := two_marks (fun c q => (h.ab c).2 q) h.la h.da h.db hxa
      have h2 := two_marks (fun c q => (h.ab c).1 q) h.lb h.db h.da hyb
      have e1 := SameTrue_all ma mb (by omega) (two_len h.da.t h.db.t h1 h2) (fun m hm => tB_iff.2 (h2 m hm))
      have e2 := rest_all ca ma (by omega) (litsIn_ok h.la (by omega) (by omega) (fun c q => by have := h.ha c q; omega)) (fine_noForce h.la h.da.t hxa) (fine_noBroken h.la h.da.t hxa)
      obtain ⟨K1, e1⟩ := e1
      obtain ⟨K2, e2⟩ := e2
      exact ⟨K1 + K2, e1 _ (by omega), e2 _ (by omega)⟩
    · exact absurd (two_bad (fun c q => (h.ab c).2 q) h.la h.da h.db hxa (List.mem_of_getElem? hj) ht) id
  · rcases hy with ⟨rfl, hyb⟩ | ⟨j, d, rfl, hj, ht⟩
    · exact absurd (two_bad (fun c q => (h.ab c).1 q) h.lb h.db h.da hyb (List.mem_of_getElem? hi) hs) id
    · refine .inr ⟨i, j, c, d, rfl, rfl, hi, hj, ?_⟩
      have hcm := List.mem_of_getElem? hi
      have hdm := List.mem_of_getElem? hj
      have b1 := bad_broken h.da.t (fun x hx => (h.la c hcm x hx).1) hs
      have b2 := bad_broken h.db.t (fun x hx => (h.lb d hdm x hx).1) ht
      have e1 := Broken_all c ma (by omega) (by have := h.ha c hcm; omega) (fun x hx => by have := h.la c hcm x hx; unfold inR; omega)
      have e2 := Broken_all d mb (by omega) (by have := h.hb d hdm; omega) (fun x hx => by have := h.lb d hdm x hx; unfold inR; omega)
      rw [b1] at e1
      rw [b2] at e2
      obtain ⟨K1, e1⟩ := e1
      obtain ⟨K2, e2⟩ := e2
      exact ⟨K1 + K2, e1 _ (by omega), e2 _ (by omega)⟩
theorem at_any (cs : List (List Int)) (i : Nat) (c : List Int) (A : Option Addr) (cap : Nat) (W : World) {base : Nat} {ok : Nat → Prop} (ho : Kd.R (Kd.slice 3 (Kd.int .i64)) 34 W base ok (.slice A cs.length cap) cs) (hi : cs[i]? = some c) :
    Calls Try.prog 18 #[.slice A cs.length cap, .int .i64 (i : Int)] W fun e w' => ∃ A' c', e = .returned (.slice A' c.length c') ∧ (c.length ≤ c' ∧ Kd.C (Kd.int .i64) w' A' c.length c) ∧ Below W.heap.size W w' := by
  refine (fulcrumlaw20_at.calls ok A cap cs (i : Int) c W (Kd.V_mk (Kd.R_reads' ho).2.1 (Kd.R_F ho)) (at_f hi)).mono ?_
  rintro e w' ⟨v, rfl, hv, hb⟩
  obtain ⟨A', c', rfl⟩ := Kd.V_slice hv
  have := Kd.V_reads' hv
  exact ⟨A', c', rfl, ⟨this.2.1, this.2.2⟩, hb⟩
theorem drop_rev {l : List (List Int)} {k : Nat} (h : k < l.length) : (l.drop k).reverse = (l.drop (k + 1)).reverse ++ [rd_L2 l (k : Int)] := by
  rw [rdl_drop h, List.reverse_cons]
theorem Two.marksA {N : Nat} {ca cb : List (List Int)} {V0 : List Int} {ga gb : Nat} {w : World} {va vb : List Int} {cla clb : List (List Int × Int × Int)} {ma mb : List S48} (h : Two N ca cb V0 ga gb w va vb cla clb ma mb) :
    Calls Try.prog 20 #[.pointer (some ⟨ga, 0, none⟩)] w fun e w' => ∃ A c, e = .returned (.slice A ma.length c) ∧ (ma.length ≤ c ∧ Kd.C k48 w' A ma.length ma) ∧ Below w.heap.size w w' := by
  obtain ⟨ok, s⟩ := h.sa
  refine (st_Marks ok ga va cla ma w s h.mla.1).mono ?_
  rintro e w' ⟨v, rfl, ho, hb⟩
  obtain ⟨A, c, rfl⟩ := Kd.R_slice ho
  have := Kd.R_reads' ho
  exact ⟨A, c, rfl, ⟨this.2.1, this.2.2⟩, hb⟩
theorem Two.marksB {N : Nat} {ca cb : List (List Int)} {V0 : List Int} {ga gb : Nat} {w : World} {va vb : List Int} {cla clb : List (List Int × Int × Int)} {ma mb : List S48} (h : Two N ca cb V0 ga gb w va vb cla clb ma mb) :
    Calls Try.prog 20 #[.pointer (some ⟨gb, 0, none⟩)] w fun e w' => ∃ A c, e = .returned (.slice A mb.length c) ∧ (mb.length ≤ c ∧ Kd.C k48 w' A mb.length mb) ∧ Below w.heap.size w w' := by
  obtain ⟨ok, s⟩ := h.sb
  refine (st_Marks ok gb vb clb mb w s h.mla.2).mono ?_
  rintro e w' ⟨v, rfl, ho, hb⟩
  obtain ⟨A, c, rfl⟩ := Kd.R_slice ho
  have := Kd.R_reads' ho
  exact ⟨A, c, rfl, ⟨this.2.1, this.2.2⟩, hb⟩
theorem Two.clsA {N : Nat} {ca cb : List (List Int)} {V0 : List Int} {ga gb : Nat} {w : World} {va vb : List Int} {cla clb : List (List Int × Int × Int)} {ma mb : List S48} (h : Two N ca cb V0 ga gb w va vb cla clb ma mb) :
    Calls Try.prog 19 #[.pointer (some ⟨ga, 0, none⟩)] w fun e w' => ∃ A c, e = .returned (.slice A ca.length c) ∧ Kd.R (Kd.slice 3 (Kd.int .i64)) 34 w' w.heap.size (fun _ => True) (.slice A ca.length c) ca ∧ Below w.heap.size w w' := by
  obtain ⟨ok, s⟩ := h.sa
  refine (st_Clauses ok ga va cla ma w s h.fa.cap (fun x hx => h.ha x.1 (by rw [← h.ea]; exact List.mem_map_of_mem hx))).mono ?_
  rintro e w' ⟨v, rfl, ho, hb⟩
  rw [h.ea] at ho
  obtain ⟨A, c, rfl⟩ := Kd.R_slice ho
  exact ⟨A, c, rfl, ho, hb⟩
theorem Two.clsB {N : Nat} {ca cb : List (List Int)} {V0 : List Int} {ga gb : Nat} {w : World} {va vb : List Int} {cla clb : List (List Int × Int × Int)} {ma mb : List S48} (h : Two N ca cb V0 ga gb w va vb cla clb ma mb) :
    Calls Try.prog 19 #[.pointer (some ⟨gb, 0, none⟩)] w fun e w' => ∃ A c, e = .returned (.slice A cb.length c) ∧ Kd.R (Kd.slice 3 (Kd.int .i64)) 34 w' w.heap.size (fun _ => True) (.slice A cb.length c) cb ∧ Below w.heap.size w w' := by
  obtain ⟨ok, s⟩ := h.sb
  refine (st_Clauses ok gb vb clb mb w s h.fb.cap (fun x hx => h.hb x.1 (by rw [← h.eb]; exact List.mem_map_of_mem hx))).mono ?_
  rintro e w' ⟨v, rfl, ho, hb⟩
  rw [h.eb] at ho
  obtain ⟨A, c, rfl⟩ := Kd.R_slice ho
  exact ⟨A, c, rfl, ho, hb⟩

end Go.Proofs.Ytegaaobiedfjcaa.PU
