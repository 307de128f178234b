import Derived.Test.YtboalbiicmcljaaZTAn8
import Derived.IntWalk
import Derived.StillTailTactics
import Derived.Maps.RangeWalk
namespace Go.Proofs.Ytboalbiicmcljaa.PAN
open Go.RowKit Go.Proofs.YtboalbiicmcljaaW.PrintWords Go.Proofs.YtboalbiicmcljaaW.PrintLast Go.Proofs.YtboalbiicmcljaaW.PrintMore Go.Proofs.YtboalbiicmcljaaH
set_option linter.unusedVariables false
set_option linter.unusedSimpArgs false
def repB (c s : List Int) : Int := (s.filter fun x => decide (-x ∈ c)).headD 0
def repS (c s : List Int) : List Int := (c.filter fun y => y ≠ -(repB c s)).foldl insK (delK s (repB c s))
def repOkB (cs : List (List Int)) (first : Bool) (s : List Int) (n : Int) : Bool :=
  decide (0 ≤ n ∧ n < (cs.length : Int)) && (rdC cs n).all litB && (if first = true then s.isEmpty else (s.filter fun x => decide (-x ∈ rdC cs n)).length == 1) && decide (s.length ≤ 1099511627776)
def repL (cs : List (List Int)) : Bool → List Int → List Int → Option (List Int)
  | _, s, [] => some s
  | f, s, n :: r => if repOkB cs f s n = true then repL cs false (repS (rdC cs n) s) r else none
structure RepOk (cs : List (List Int)) (first : Bool) (s : List Int) (n b : Int) : Prop where
  n0 : 0 ≤ n
  n1 : n < cs.length
  lits : ∀ y ∈ rdC cs n, litB y = true
  only : ∀ x ∈ s, (-x ∈ rdC cs n ↔ x = b)
  has : (first = true ∧ s = [] ∧ b = 0) ∨ (first = false ∧ b ∈ s)
  len : s.length ≤ 1099511627776
theorem repOk_of {cs : List (List Int)} {first : Bool} {s : List Int} {n : Int} (h : repOkB cs first s n = true) : RepOk cs first s n (repB (rdC cs n) s) := by
  unfold repOkB at h
  simp only [Bool.and_eq_true, decide_eq_true_eq] at h
  obtain ⟨⟨⟨h1, h2⟩, h3⟩, h4⟩ := h
  have h2 := List.all_eq_true.1 h2
  cases first with
  | true =>
    simp only [if_true] at h3
    have e : s = [] := List.isEmpty_iff.1 h3
    subst e
    exact ⟨h1.1, h1.2, h2, by simp, .inl ⟨rfl, rfl, rfl⟩, h4⟩
  | false =>
    simp only [Bool.false_eq_true, if_false, beq_iff_eq] at h3
    obtain ⟨b, hb⟩ := List.length_eq_one_iff.1 h3
    have e : repB (rdC cs n) s = b := by unfold repB; rw [hb]; rfl
    have hm : ∀ x, x ∈ s.filter (fun x => decide (-x ∈ rdC cs n)) ↔ x = b := fun x => by rw [hb]; simp
    have hbs := (hm b).2 rfl
    rw [List.mem_filter] at hbs
    rw [e]
    exact ⟨h1.1, h1.2, h2, fun x hx => ⟨fun q => (hm x).1 (List.mem_filter.2 ⟨hx, decide_eq_true q⟩), fun q => q ▸ of_decide_eq_true hbs.2⟩, .inr ⟨rfl, hbs.1⟩, h4⟩
def insA (x : Int) : List Int → List Int
  | [] => [x]
  | y :: r => if atomI x ≤ atomI y then x :: y :: r else y :: insA x r
def sortA : List Int → List Int
  | [] => []
  | x :: r => insA x (sortA r)
theorem insA_perm (x : Int) : ∀ l, (insA x l).Perm (x :: l)
  | [] => List.Perm.refl _
  | y :: r => by
    rw [insA]
    split
    · exact List.Perm.refl _
    · exact ((insA_perm x r).cons y).trans (List.Perm.swap x y r)
theorem sortA_perm : ∀ l, (sortA l).Perm l
  | [] => List.Perm.refl _
  | x :: r => (insA_perm x _).trans ((sortA_perm r).cons x)
theorem insA_sorted (x : Int) : ∀ l : List Int, l.Pairwise (fun a b => atomI a ≤ atomI b) → (insA x l).Pairwise (fun a b => atomI a ≤ atomI b)
  | [], _ => by simp [insA]
  | y :: r, h => by
    rw [insA]
    have h1 := List.pairwise_cons.1 h
    split
    · rename_i hc
      exact List.pairwise_cons.2 ⟨fun z hz => by
        rcases List.mem_cons.1 hz with rfl | hz
        · exact hc
        · exact Int.le_trans hc (h1.1 z hz), h⟩
    · rename_i hc
      refine List.pairwise_cons.2 ⟨fun z hz => ?_, insA_sorted x r h1.2⟩
      rcases List.mem_cons.1 ((insA_perm x r).mem_iff.1 hz) with rfl | hz
      · omega
      · exact h1.1 z hz
theorem sortA_sorted : ∀ l, (sortA l).Pairwise (fun a b => atomI a ≤ atomI b)
  | [] => List.Pairwise.nil
  | x :: r => insA_sorted x _ (sortA_sorted r)
def NoTwo (s : List Int) : Prop := ∀ x ∈ s, ∀ y ∈ s, atomI x = atomI y → x = y
theorem sortA_unique {l s : List Int} (hp : l.Perm s) (hn : NoTwo s) (h : l.Pairwise (fun a b => atomI a ≤ atomI b)) : l = sortA s :=
  List.Perm.eq_of_pairwise (le := fun a b => atomI a ≤ atomI b) (fun a b ha hb q1 q2 => hn a (hp.mem_iff.1 ha) b ((sortA_perm s).mem_iff.1 hb) (Int.le_antisymm q1 q2)) h (sortA_sorted s) (hp.trans (sortA_perm s).symm)
set_option maxHeartbeats 2000000 in
theorem an_index (A : Option Addr) (cap : Nat) (c : List Int) (x : Int) (w : World) (hc : Kd.C (Kd.int .i64) w A c.length c) :
    Calls Try.prog 74 #[.slice A c.length cap, .int .i64 x] w fun e w' => ∃ r : Int, e = .returned (.int .i64 r) ∧ decide (r ≥ 0) = decide (x ∈ c) ∧ w = w' := by
  have HC := Aside0.mk hc
  have hmax := Kd.C_max hc
  clear hc
  go_enter Try.func74, Try.ntmps74
  go_wp2
  go_loopg [8] c.length (fun kq v8 w' => ∃ i : Nat, v8 = .int .i64 i ∧ i + kq = c.length ∧ Aside0 (x ∉ c.take i) ∧ w = w')
  case atStart => exact ⟨0, rfl, by omega, ⟨by simp⟩, rfl⟩
  case round =>
    obtain ⟨i, rfl, hik, HN, rfl⟩ := hrel
    cases gk with
    | succ k1 =>
      have hlt : i < c.length := by omega
      obtain ⟨ad, rfl, hx⟩ := Kd.at_int HC.out (i : Int) (by omega) (by omega)
      rw [Int.toNat_natCast] at hx
      have htk := take_rd hlt
      have hxm := rdm hlt
      obtain ⟨y, hye⟩ : ∃ y, y = rd c (i : Int) := ⟨_, rfl⟩
      rw [← hye] at hx htk hxm
      have HTK := Aside0.mk (And.intro htk hxm)
      clear hye htk hxm
      by_cases he : x = y
      · have hb : (x == y) = true := by simpa using he
        have HE := Aside0.mk he
        clear he
        go_wp2
        go_ret
        refine ⟨(i : Int), rfl, ?_, rfl⟩
        rw [decide_eq_true (show (i : Int) ≥ 0 by omega), decide_eq_true (show x ∈ c from HE.out ▸ HTK.out.2)]
      · have hb : (x == y) = false := by simpa using he
        have HE := Aside0.mk he
        clear he
        go_wp2
        go_roundg k1
        case measure => omega
        case rel => exact ⟨i + 1, by go_num, by omega, ⟨by rw [HTK.out.1, List.mem_append, List.mem_singleton]; exact fun q => q.elim HN.out HE.out⟩, rfl⟩
    | zero =>
      obtain rfl : i = c.length := by omega
      go_wp2
      go_ret
      refine ⟨-1, rfl, ?_, rfl⟩
      have h1 := HN.out
      rw [List.take_length] at h1
      rw [decide_eq_false h1]; rfl
set_option maxHeartbeats 1000000 in
theorem an_contains (A : Option Addr) (cap : Nat) (c : List Int) (x : Int) (w : World) (hc : Kd.C (Kd.int .i64) w A c.length c) :
    Calls Try.prog 64 #[.slice A c.length cap, .int .i64 x] w fun e w' => e = .returned (.bool (decide (x ∈ c))) ∧ w = w' := by
  have HC := Aside0.mk hc
  clear hc
  go_enter Try.func64, Try.ntmps64
  go_wp2_with (go_at_call 74; refine (an_index A cap c x _ HC.out).mono ?_; rintro e w' ⟨r, rfl, hr, rfl⟩; have HR := Aside0.mk hr; clear hr)
  go_ret
  exact ⟨by rw [← HR.out]; rfl, rfl⟩
set_option maxHeartbeats 1000000 in
theorem an_rcmp (x y : Int) (W : World) (hx : w64 x) (hy : w64 y) (hn : atomI x = atomI y → x = y) :
    Calls Try.prog 66 #[.int .i64 x, .int .i64 y] W fun e w' => e = .returned (.int .i64 (atomI x - atomI y)) ∧ W = w' := by
  have HX := Aside0.mk hx
  have HY := Aside0.mk hy
  have r0 : ∀ z, w64 z → 0 ≤ atomI z ∧ atomI z ≤ 9223372036854775807 := fun z hz => by
    rw [w64_iff] at hz
    unfold atomI
    split
    · omega
    · split <;> omega
  have rx := r0 x hx
  have ry := r0 y hy
  have hw : IntKind.i64.wrap (atomI x - atomI y) = atomI x - atomI y := IntWalk.i64_in _ (by omega)
  by_cases he : x = y
  · subst he
    have e0 : atomI x - atomI x = 0 := by omega
    have e1 : IntKind.i64.wrap (x - x) = 0 := by rw [Int.sub_self]; rfl
    have e2 : (atomI x != atomI x) = false := by simp
    rw [e0]
    clear hw rx ry r0 hn e0
    go_enter Try.func66, Try.ntmps66
    go_wp2_with (go_at_call 54; refine (an_atom x HX.out _).mono ?_; rintro e w' ⟨rfl, rfl⟩)
    go_ret
    exact ⟨rfl, rfl⟩
  · have e2 : (atomI x != atomI y) = true := by simpa using fun q => he (hn q)
    have hw2 : wrap64 (atomI x - atomI y) = atomI x - atomI y := by unfold wrap64; omega
    clear rx ry r0 hn he
    go_enter Try.func66, Try.ntmps66
    go_wp2_with (go_at_call 54; refine (an_atom _ ?_ _).mono ?_; (first | exact HX.out | exact HY.out); rintro e w' ⟨rfl, rfl⟩)
    go_ret
    exact ⟨rfl, rfl⟩
section
open Go.Shelf Go.Lib Go.Sort
set_option maxHeartbeats 2000000 in
set_option maxRecDepth 100000 in
theorem an_sortC (enc : Int → Value) (h1 : OneCell enc) (cf : Int → Int → Int) (hO : SWO (Go.Proofs.ltOf cf)) (g : Nat) (cb : Array Value) (blk cap : Nat) (d : Array Int) (w : World)
    (eg : ∀ args w, (callFunc g args).run Try.prog w = .ok (.enter g args) w) (hcmp : CmpLays1 Try.prog g cb enc cf blk 0 d.size w) (hH : Holds enc w blk 0 d) (hblk : blk < w.heap.size) (hsz : d.size < 4611686018427387904) :
    Calls Try.prog 65 #[.slice (some ⟨blk, 0, none⟩) d.size cap, .func (.func g) #[] cb] w fun e w' =>
      e = .returned (.tuple #[]) ∧ ∃ d' n os, PermIn 0 d.size d d' ∧ SortedIn (Go.Proofs.ltOf cf) 0 d.size d' ∧ w' = sortWorld enc w blk 0 n d' os := by
  have hlim : Lib.bitLen d.size < 4611686018427387904 := Nat.lt_of_le_of_lt (Lib.bitLen_le d.size 62 (by omega) (by omega)) (by omega)
  have hp := Any.pdqsortCmpFunc_all (P := Try.prog) (ρ := Go.Proofs.Try.sortI_ren) { Go.Proofs.Try.sortI with } enc cf g cb hO blk 0 cap d w eg hcmp ⟨h1, hH, hblk⟩ (d.size + 1) 0 d.size (Lib.bitLen d.size) d w (by omega) rfl (SW.start hH) (Nat.zero_le _) (Nat.le_refl _) hsz hlim (Or.inl rfl)
  have hl : Calls Try.prog 76 #[.int .u64 (d.size : Int)] w fun e w' => e = .returned (.int .i64 (Lib.bitLen d.size : Nat)) ∧ w' = w := by
    have h := Any.bits_Len (Go.Proofs.SlLaysF0.n15.bits (P := Try.prog) (ρ := Go.Proofs.Try.sortI_ren) { Go.Proofs.Try.sortI with }) (d.size : Int) w (by omega) (by omega)
    rwa [Int.toNat_natCast] at h
  have wr : IntKind.u64.wrap (d.size : Int) = d.size := by simp [IntKind.wrap, IntKind.bits, IntKind.signed]; omega
  have HP := Aside0.mk (pdq_sorts (Go.Proofs.ltOf cf) hO d 0 d.size (Lib.bitLen d.size) true true (Nat.zero_le _) (Nat.le_refl _) (Or.inl rfl))
  clear hH hcmp h1
  go_enter Try.func65, Try.ntmps65
  go_wp2_with (first | (go_at_call 76; refine hl.mono ?_; rintro e w' ⟨rfl, rfl⟩) | (go_at_call 75; refine hp.mono ?_; rintro e w' ⟨rfl, n, os, rfl⟩))
  go_end0
  exact ⟨rfl, _, n, os, HP.out.1, HP.out.2, rfl⟩
def clS (s : List Int) (x : Int) : Int := if x ∈ s then x else s.headD 0
def encS (s : List Int) (x : Int) : Value := .int .i64 (clS s x)
def cmpS (s : List Int) (x y : Int) : Int := atomI (clS s x) - atomI (clS s y)
theorem clS_mem {s : List Int} (hs : s ≠ []) (x : Int) : clS s x ∈ s := by
  unfold clS
  split
  · assumption
  · cases s with
    | nil => exact absurd rfl hs
    | cons a r => simp
theorem clS_of {s : List Int} {x : Int} (h : x ∈ s) : clS s x = x := if_pos h
theorem cmpS_swo (s : List Int) : SWO (Go.Proofs.ltOf (cmpS s)) where
  irrefl x := by unfold Go.Proofs.ltOf cmpS; simp
  trans x y z h1 h2 := by unfold Go.Proofs.ltOf cmpS at *; simp at *; omega
  ntrans x y z h1 h2 := by unfold Go.Proofs.ltOf cmpS at *; simp at *; omega
theorem encS_map {s xs : List Int} (h : ∀ x ∈ xs, x ∈ s) : xs.map (encS s) = encs (Value.int .i64) xs := by
  unfold encs
  exact List.map_congr_left (fun x hx => by unfold encS; rw [clS_of (h x hx)])
theorem intS_holds {s : List Int} {e : Nat} {w : World} {base g cap : Nat} {ok : Nat → Prop} {xs : List Int} (h : Kd.R (Kd.int .i64) e w base ok (.slice (some ⟨g, 0, none⟩) xs.length cap) xs) (hw : ∀ x ∈ xs, x ∈ s) : Holds (encS s) w g 0 xs.toArray := by
  intro j hj
  have hj' : j < xs.length := by simpa using hj
  have h1 := Kd.R_celln 0 h (j : Int) (by omega) (by omega)
  rw [Int.toNat_natCast] at h1
  rw [Nat.zero_add]
  refine ⟨?_, h1.2⟩
  rw [h1.1]
  have e1 : rdOf 0 xs (j : Int) = xs[j] := by simp [rdOf, List.getD_eq_getElem?_getD, List.getElem?_eq_getElem hj']
  have e2 : xs.toArray[j]! = xs[j] := by simp [hj']
  rw [e1, e2]
  unfold encS
  rw [clS_of (hw _ (List.getElem_mem hj'))]
theorem intS_sorted {s : List Int} {e : Nat} {w : World} {base g cap m : Nat} {os : Array Obj} {ok : Nat → Prop} {xs ys : List Int} (h : Kd.R (Kd.int .i64) e w base ok (.slice (some ⟨g, 0, none⟩) xs.length cap) xs) (hl : ys.length = xs.length) (hw : ∀ x ∈ ys, x ∈ s) :
    Kd.R (Kd.int .i64) e (sortWorld (encS s) w g 0 m ys.toArray os) base ok (.slice (some ⟨g, 0, none⟩) ys.length cap) ys := by
  have hok := h.1
  have ho := Kd.own_of_R h
  rcases ho.2 with ⟨q, _⟩ | ⟨g', cap', cur, q, hb, hh, h1, h2, h3, h4⟩
  · cases q
  · injection q with q1 q2 q3
    injection q1 with q1
    injection q1 with q1
    subst q1 q3
    refine Kd.R_of_own ⟨by simp [encs], .inr ⟨g, cap, _, rfl, hb, sw_heap _ hh, by omega, h2, by simp [putCells, h3], ?_⟩⟩ (fun k hk => hok k (by simpa [Value.ownBlock] using hk))
    rw [Nat.mul_one, ← encS_map hw]
    exact sw_take cur ys (by omega)
theorem an_rsort (s done : List Int) (v : Value) (B : Nat) (ok : Nat → Prop) (wr : World) (hR : Kd.R (Kd.int .i64) 3 wr B ok v done) (hp : done.Perm s) (hw : ∀ x ∈ s, w64 x) (hn : NoTwo s) (hs : s ≠ []) (hl : s.length ≤ 4194304) :
    Calls Try.prog 65 #[v, .func (.func 66) #[] #[]] wr fun e w' => e = .returned (.tuple #[]) ∧ Kd.R (Kd.int .i64) 3 w' B ok v (sortA s) ∧ wr.grownBy w' v.ownBlock := by
  have hlen := hp.length_eq
  have hpos : 0 < done.length := by rw [hlen]; exact List.length_pos_iff.2 hs
  obtain ⟨g, cap, rfl, hg1, hg2, cells, hg3⟩ := Kd.R_form hR hpos
  have hds : ∀ x ∈ done, x ∈ s := fun x hx => hp.mem_iff.1 hx
  have hcmp : CmpReads Try.prog 66 #[] (encS s) (cmpS s) g 0 done.toArray.size wr := by
    intro m os dk hdk x y
    refine (an_rcmp (clS s x) (clS s y) _ (hw _ (clS_mem hs x)) (hw _ (clS_mem hs y)) (hn _ (clS_mem hs x) _ (clS_mem hs y))).mono ?_
    rintro e w' ⟨rfl, rfl⟩
    exact ⟨rfl, 0, rfl⟩
  have eg : ∀ args w, (callFunc 66 args).run Try.prog w = .ok (.enter 66 args) w := enters_of Try.func66 (by kernel_rfl) rfl
  have hcon := an_sortC (encS s) (fun _ => rfl) (cmpS s) (cmpS_swo s) 66 #[] g cap done.toArray wr eg hcmp.lays (intS_holds hR hds) hg2 (by simp; omega)
  have hsz : done.toArray.size = done.length := by simp
  rw [hsz] at hcon
  refine Calls.mono (f := 65) hcon ?_
  rintro e w' ⟨rfl, d', n, os, hp', hs', rfl⟩
  have hperm : d'.toList.Perm done := by have := perm_of_in (d := done.toArray) (by rw [hsz]; exact hp'); simpa using this
  have hpw : d'.toList.Pairwise (fun a b => atomI a ≤ atomI b) := by
    have hn' : d'.size = done.length := by rw [hp'.1]; simp
    rw [List.pairwise_iff_getElem]
    intro i j hi hj hij
    have h1 := hs' i j (Nat.zero_le _) hij (by rw [← hn']; simpa using hj)
    have ei : d'[i]! = d'.toList[i] := by have : i < d'.size := by simpa using hi
                                          simp [this]
    have ej : d'[j]! = d'.toList[j] := by have : j < d'.size := by simpa using hj
                                          simp [this]
    rw [ei, ej] at h1
    unfold Go.Proofs.ltOf cmpS at h1
    rw [clS_of (hds _ (hperm.mem_iff.1 (List.getElem_mem hi))), clS_of (hds _ (hperm.mem_iff.1 (List.getElem_mem hj)))] at h1
    have h1 := of_decide_eq_false h1
    omega
  have hy := sortA_unique (hperm.trans hp) hn hpw
  have hl2 : d'.toList.length = done.length := hperm.length_eq
  refine ⟨rfl, ?_, ?_⟩
  · have := intS_sorted (s := s) (m := n) (os := os) (ys := d'.toList) hR hl2 (fun x hx => hds x (hperm.mem_iff.1 hx))
    rw [hy] at this
    have e1 : (sortA s).length = done.length := by rw [← hy]; exact hl2
    rw [e1] at this
    have e2 : d' = (sortA s).toArray := by rw [← hy]
    rw [e2]
    exact this
  · exact sw_grown d'
end
theorem rdi_dropR {l : List Int} {i : Nat} (h : i < l.length) : l.drop i = rd l (i : Int) :: l.drop (i + 1) := by
  rw [List.drop_eq_getElem_cons h]
  simp [rd, List.getD_eq_getElem?_getD, List.getElem?_eq_getElem h]
structure RpI (w w' : World) (s : List Int) : Prop where
  b : Below w.heap.size w w'
  map : IsMapF Try.prog 3 w' w.heap.size s (fun _ => 1)
structure RgI (w wo : World) (t done : List Int) (w' : World) : Prop where
  i : RpI w w' t
  r : RangesF Try.prog 3 w' w.heap.size wo.heap.size t (fun _ => 1) done
structure GaI (w wo : World) (t : List Int) (v : Value) (done : List Int) (w' : World) : Prop where
  b : Below w.heap.size w w'
  r : RangesF Try.prog 3 w' w.heap.size wo.heap.size t (fun _ => 1) done
  v : Kd.R (Kd.int .i64) 3 w' w.heap.size (fun k => k ≠ w.heap.size ∧ k ≠ wo.heap.size) v done
set_option maxHeartbeats 8000000 in
set_option maxRecDepth 100000 in
theorem an_replay (A0 : Option Addr) (c0 : Nat) (cs : List (List Int)) (A1 : Option Addr) (c1 : Nat) (ch : List Int) (w : World) (hr0 : Kd.C (Kd.slice 3 (Kd.int .i64)) w A0 cs.length cs) (hr1 : Kd.C (Kd.int .i64) w A1 ch.length ch) (hcw : ∀ c ∈ cs, ∀ x ∈ c, w64 x) (hcl : ∀ c ∈ cs, c.length ≤ 4194304) (hch : ch.length ≤ 1099511627776) (s : List Int) (hrun : repL cs true [] ch = some s) (hne : ch ≠ []) (hno : NoTwo s) (hs : s ≠ []) (hsl : s.length ≤ 4194304) :
    Calls Try.prog 33 #[.slice A0 cs.length c0, .slice A1 ch.length c1] w fun e w' => ∃ v, e = .returned (.tuple #[v, .int .i64 0]) ∧ Kd.R (Kd.int .i64) 3 w' w.heap.size (fun _ => True) v (sortA s) ∧ Below w.heap.size w w' := by
  have HR0 := Aside0.mk hr0
  have HR1 := Aside0.mk hr1
  have HCW := Aside0.mk hcw
  have HCL := Aside0.mk hcl
  have HNO := Aside0.mk hno
  have HS := Aside0.mk hs
  have HRUN := Aside0.mk hrun
  have hmax := Kd.C_max hr0
  have hne2 : ((ch.length : Int) == 0) = false := by
    have : ch.length ≠ 0 := fun q => hne (List.eq_nil_of_length_eq_zero q)
    simp; omega
  have hmm := @run_makeMap Try.prog
  clear hr0 hr1 hcw hcl hno hs hrun hne
  go_enter Try.func33, Try.ntmps33
  go_wp2
  have HI0 : Aside0 (RpI w (w.alloc (.map #[] 0)) []) := ⟨⟨below_alloc (Below.refl _ _) _, isMapF_made Try.prog 3 w (fun _ => 1)⟩⟩
  clear hmm
  go_loopg [18] ch.length (fun kq v18 w' => ∃ j : Nat, ∃ t : List Int, v18 = .int .i64 j ∧ j + kq = ch.length ∧ Aside0 (repL cs (decide (j = 0)) t (ch.drop j) = some s) ∧ Aside0 (RpI w w' t ∧ (∀ x ∈ t, litB x = true)))
  case atStart => exact ⟨0, [], rfl, by omega, ⟨by simpa using HRUN.out⟩, ⟨HI0.out, by simp⟩⟩
  case round =>
    obtain ⟨j, t, rfl, hj, HQ, HI⟩ := hrel
    clear HI0
    obtain ⟨wo, rfl⟩ : ∃ w, w = wr := ⟨_, rfl⟩
    cases gk with
    | zero =>
      obtain rfl : j = ch.length := by omega
      have hq := HQ.out
      rw [List.drop_length, repL] at hq
      injection hq with hq
      subst hq
      have HTW : Aside0 (∀ x ∈ t, w64 x) := ⟨fun x hx => (HI.out.1.map.wf x hx).1⟩
      clear HQ HRUN
      go_wp2_with (at_range; refine wpList_range_F _ rfl _ 63 rfl 3 Try.underlying63 Try.underlying3 w.heap.size t (fun _ => 1) rfl HI.out.1.map ?_; intro w1 hr1 hg1 hs1)
      go_frame
      have HG0 : Aside0 (GaI w wo t (.slice none 0 0) [] w1) := ⟨⟨HI.out.1.b.grown hg1 HI.out.1.b.size (fun j hj => by cases hj), hr1, Kd.R_nil _ _ _ _ _⟩⟩
      have HWO : Aside0 (w.heap.size < wo.heap.size) := ⟨HI.out.1.map.lt⟩
      clear hr1 hg1 hs1
      go_loopg [13] t.length (fun kq v13 w' => ∃ done, kq + done.length = t.length ∧ Aside0 (GaI w wo t v13 done w'))
      case atStart => exact ⟨[], by simp, HG0⟩
      case round =>
        obtain ⟨done, hkd, HG⟩ := hrel
        clear HG0
        go_wp2_with (at_next; refine wpList_next_F _ rfl _ rfl 3 Try.underlying3 w.heap.size wo.heap.size t (fun _ => 1) done rfl HG.out.r ?_ ?_)
        · intro hp
          have HSORT := Aside0.mk (an_rsort t done u13 w.heap.size (fun k => k ≠ w.heap.size ∧ k ≠ wo.heap.size) wr HG.out.v hp HTW.out HNO.out HS.out hsl)
          have HAW := Aside0.mk (Kd.R_base HG.out.v)
          clear hp
          go_wp2_with (go_at_call 65; refine HSORT.out.mono ?_; rintro e w4 ⟨rfl, hr4, hg4⟩; have H4 := Aside0.mk (And.intro hr4 hg4); clear hr4 hg4)
          go_ret2
          exact ⟨_, rfl, Kd.R_mono H4.out.1 (fun _ _ => trivial), pw_below_grown HG.out.b _ HG.out.b.size H4.out.2 (fun k q => HAW.out k q)⟩
        · intro x w2 hx hxs hxd hrg hgr hsz hen
          cases gk with
          | zero =>
            exfalso
            have h1 := hrg.le
            rw [List.length_append, List.length_singleton] at h1
            omega
          | succ k1 =>
            have hI2 : GaI w wo t u13 done w2 → True := fun _ => trivial
            have hb2 : Below w.heap.size w w2 := HG.out.b.grown hgr HG.out.b.size (fun j hj => by injection hj with hj; have := HWO.out; omega)
            have HB2 := Aside0.mk (And.intro hb2 (And.intro hrg (Kd.R_grown HG.out.v hgr (fun k hk e => hk.2 (by injection e)))))
            have HLEN := Aside0.mk hrg.le
            have HEN := Aside0.mk hen
            have HSZ : Aside0 (w.heap.size < w2.heap.size ∧ wo.heap.size < w2.heap.size) := ⟨hrg.map.lt, hrg.lt⟩
            clear hI2 hb2 hrg hgr hsz hxs hxd hx
            have hal : done.length + 1 ≤ 4194304 := by have h1 := HLEN.out; rw [List.length_append, List.length_singleton] at h1; omega
            have HAL := Aside0.mk hal
            clear hal
            go_wp2_with (at_builtin; refine Kd.R_append (Kd.int .i64) (w0 := w) w.heap.size rfl (.tmp 88) (.tmp 90) 28 3 (.int .i64 0) 8 rfl Try.underlying28 info_int rfl (by decide) (by omega) u13 done x [.int .i64 x] (fun k => k ≠ w.heap.size ∧ k ≠ wo.heap.size) (fun _ => False) rfl rfl ?aP (fun _ hk => hk.elim) ?aF HB2.out.2.2 HB2.out.1 HB2.out.1.size ?aL ?_; (case aP => exact rfl); (case aF => exact fun k hk => by have := HSZ.out; constructor <;> omega); (case aL => have := HAL.out; omega); intro v4 w4 ho hb hg hat; have H4 := Aside0.mk (And.intro ho (And.intro hb hg)); clear ho hb hg hat)
            have hne : some wo.heap.size ≠ u13.ownBlock := Kd.R_away HB2.out.2.2 (fun k hk => hk.2)
            have hnm : some w.heap.size ≠ u13.ownBlock := Kd.R_away HB2.out.2.2 (fun k hk => hk.1)
            have HG4 : Aside0 (GaI w wo t v4 (done ++ [x]) w4) := ⟨⟨H4.out.2.1, HB2.out.2.1.step (H4.out.2.2.block _ HB2.out.2.1.map.lt hnm) (H4.out.2.2.block _ HB2.out.2.1.lt hne), H4.out.1⟩⟩
            clear hne hnm
            go_roundg k1
            case measure => omega
            case rel => exact ⟨done ++ [x], by simp; omega, HG4⟩
    | succ k1 =>
      have hlt : j < ch.length := by omega
      obtain ⟨adj, rfl, hx⟩ := Kd.at_int (Kd.C_below HR1.out HI.out.1.b) (j : Int) (by omega) (by omega)
      rw [Int.toNat_natCast] at hx
      have hq := HQ.out
      rw [rdi_dropR hlt, repL] at hq
      obtain ⟨n, hne⟩ : ∃ n, n = rd ch (j : Int) := ⟨_, rfl⟩
      rw [← hne] at hx hq
      have hok : repOkB cs (decide (j = 0)) t n = true := by
        refine Classical.byContradiction fun h => ?_
        rw [if_neg h] at hq
        cases hq
      rw [if_pos hok] at hq
      have HQ1 := Aside0.mk hq
      have HOK := Aside0.mk (repOk_of hok)
      have hn0 := HOK.out.n0
      have hn1 := HOK.out.n1
      have hd0 : decide (n < 0) = false := by simp; omega
      have hd1 : decide (n ≥ (cs.length : Int)) = false := by simp; omega
      obtain ⟨adc, Ac, cc, rfl, y0, y1, y2⟩ := at_C HR0.out n hn0 hn1
      have HLC := Aside0.mk (HCL.out _ (rdC_mem hn0 hn1))
      have HWC := Aside0.mk (HCW.out _ (rdC_mem hn0 hn1))
      have HLI := Aside0.mk HOK.out.lits
      have HON := Aside0.mk HOK.out.only
      have HHA := Aside0.mk HOK.out.has
      have HTL := Aside0.mk HOK.out.len
      unfold repS at HQ1
      obtain ⟨b, hb⟩ : ∃ b, b = repB (rdC cs n) t := ⟨_, rfl⟩
      rw [← hb] at HQ1 HON HHA
      obtain ⟨cl, hcle⟩ : ∃ x, x = rdC cs n := ⟨_, rfl⟩
      rw [← hcle] at y0 y1 y2 HWC HLC HLI HON HQ1
      have HY0 := Aside0.mk y0
      have HY2 := Aside0.mk y2
      clear hq hok hne hb hcle y2 y0 HOK HQ
      go_wp2_with (at_range; refine wpList_range_F _ rfl _ 63 rfl 3 Try.underlying63 Try.underlying3 w.heap.size t (fun _ => 1) rfl HI.out.1.map ?_; intro w1 hr1 hg1 hs1)
      go_frame
      have HG0 : Aside0 (RgI w wo t [] w1) := ⟨⟨⟨HI.out.1.b.grown hg1 HI.out.1.b.size (fun j hj => by cases hj), hr1.map⟩, hr1⟩⟩
      have HWB : Aside0 (w64 b) := ⟨by
        rcases HHA.out with ⟨_, _, q⟩ | ⟨_, q⟩
        · rw [q]; decide
        · exact (HI.out.1.map.wf b q).1⟩
      have HWT : Aside0 (∀ x ∈ t, w64 x) := ⟨fun x hx => (HI.out.1.map.wf x hx).1⟩
      have HTN : Aside0 t.Nodup := ⟨HI.out.1.map.nodup⟩
      clear hr1 hg1 hs1
      go_loopg [9] t.length (fun kq v9 w' => ∃ done, ∃ bv : Int, kq + done.length = t.length ∧ v9 = .int .i64 bv ∧ Aside0 (bv = if b ∈ done then b else 0) ∧ Aside0 (RgI w wo t done w'))
      case atStart => exact ⟨[], 0, by simp, rfl, ⟨by simp⟩, HG0⟩
      case round =>
        obtain ⟨done, bv, hkd, rfl, HV0, HG⟩ := hrel
        clear HG0
        go_wp2_with (at_next; refine wpList_next_F _ rfl _ rfl 3 Try.underlying3 w.heap.size wo.heap.size t (fun _ => 1) done rfl HG.out.r ?_ ?_)
        · intro hp
          have hbv : bv = b := by
            rw [HV0.out]
            rcases HHA.out with ⟨_, q1, q2⟩ | ⟨_, q⟩
            · rw [q1] at hp
              rw [List.Perm.eq_nil hp, q2]; rfl
            · rw [if_pos (hp.mem_iff.2 q)]
          clear HV0 hp
          subst hbv
          have hd2 : decide (0 < j) = false ∨ (decide (0 < j) = true ∧ (bv == 0) = false) := by
            rcases HHA.out with ⟨q, _⟩ | ⟨q, q1⟩
            · have : j = 0 := by simpa using q
              exact .inl (by simp; omega)
            · have : j ≠ 0 := by simpa using q
              have := (litB_iff.1 (HI.out.2 bv q1)).1
              exact .inr ⟨by simp; omega, by simpa using this⟩
          have hy := pw_cell_below HG.out.i.b HY0.out
          rcases hd2 with hd2 | ⟨hd2, hb0⟩
          all_goals
            go_wp2_with (refine wpList_del_F _ rfl (.tmp 53) (.tmp 54) 63 3 rfl Try.underlying63 Try.underlying3 w.heap.size t (fun _ => 1) rfl HG.out.i.map bv rfl HWB.out ?_; intro w3 hm3 hg3; have HM3 := Aside0.mk (And.intro hm3 hg3); have hb3 : Below w.heap.size w w3 := pw_below_grown HG.out.i.b _ HG.out.i.b.size hg3 (fun k q => by injection q with q; omega); have hy3 := pw_cell_below hb3 HY0.out; have HB3 := Aside0.mk hb3; clear hm3 hg3 hb3)
            clear hy
            try clear hy3
            try clear hb0
            clear hd2
            go_loopg [60] cl.length (fun kj v60 w' => ∃ i : Nat, ∃ S' : List Int, v60 = .int .i64 i ∧ i + kj = cl.length ∧ S'.length ≤ 1099511627776 + i ∧ Aside0 (S' = ((cl.take i).filter (fun y => y ≠ -bv)).foldl insK (delK t bv)) ∧ Aside0 (RpI w w' S' ∧ (∀ x ∈ S', litB x = true)))
            case atStart => exact ⟨0, delK t bv, rfl, by omega, by have h1 := HTL.out; have h2 : (delK t bv).length ≤ t.length := List.length_filter_le _ _; omega, ⟨by simp⟩, ⟨⟨HB3.out, HM3.out.1⟩, fun x hx => HI.out.2 x (mem_delK.1 hx).1⟩⟩
            case round =>
              obtain ⟨i, S', rfl, hi, hsl3, HS3, HK⟩ := hrel
              have hlc := HLC.out
              cases gk with
              | zero =>
                obtain rfl : i = cl.length := by omega
                have hs3 := HS3.out
                rw [List.take_length] at hs3
                have hq := HQ1.out
                rw [← hs3] at hq
                have HQ2 := Aside0.mk hq
                clear hs3 hq HS3 HQ1
                go_wp2
                go_roundg k1
                case measure => omega
                case rel => exact ⟨j + 1, S', by go_num, by omega, ⟨by rw [decide_eq_false (Nat.succ_ne_zero j)]; exact HQ2.out⟩, HK⟩
              | succ kj =>
                have hlti : i < cl.length := by omega
                obtain ⟨adx, rfl, hx⟩ := Kd.at_int (Kd.C_below HY2.out HK.out.1.b) (i : Int) (by omega) (by omega)
                rw [Int.toNat_natCast] at hx
                have htk := take_rd hlti
                have hym := rdm hlti
                obtain ⟨y, hye⟩ : ∃ y, y = rd cl (i : Int) := ⟨_, rfl⟩
                rw [← hye] at hx htk hym
                have HTK := Aside0.mk htk
                have HWY := Aside0.mk (HWC.out y hym)
                have HLY := Aside0.mk (HLI.out y hym)
                have haz : (atomI y == 0) = false := by rw [atomI_zero HWY.out, HLY.out]; rfl
                have hsm : S'.length < maxLen := by unfold maxLen; omega
                have HSM := Aside0.mk hsm
                clear htk hym hye hsm
                by_cases hb : bv = 0
                · have hb1 : (bv == 0) = true := by simpa using hb
                  have HFY : Aside0 ([y].filter (fun y => y ≠ -bv) = [y]) := ⟨by
                    have : y ≠ -bv := by rw [hb]; exact (litB_iff.1 HLY.out).1
                    simp [this]⟩
                  clear hb
                  go_wp2_with (first | (go_at_call 54; refine (an_atom y HWY.out _).mono ?_; rintro e w' ⟨rfl, rfl⟩) | (at_mapUpdate; refine wpList_put_F _ rfl _ _ _ 63 rfl 3 Try.underlying63 Try.underlying3 w.heap.size S' (fun _ => 1) rfl HK.out.1.map HSM.out y 1 rfl rfl HWY.out (by decide) ?_; intro w4 hm4 hg4; have HM4 := Aside0.mk (And.intro hm4 hg4); clear hm4 hg4))
                  go_roundg kj
                  case measure => omega
                  case rel => exact ⟨i + 1, insK S' y, by go_num, by omega, by rw [length_insK]; split <;> omega, ⟨by rw [HTK.out, List.filter_append, List.foldl_append, ← HS3.out, HFY.out]; rfl⟩, ⟨⟨pw_below_grown HK.out.1.b _ HK.out.1.b.size HM4.out.2 (fun k q => by injection q with q; omega), HM4.out.1.congr (List.Perm.refl _) (fun z _ => by unfold updF; split <;> rfl)⟩, fun z hz => (mem_insK.1 hz).elim (HK.out.2 z) (fun q => q ▸ HLY.out)⟩⟩
                · have hb1 : (bv == 0) = false := by simpa using hb
                  have hbl : litB bv = true := by
                    rcases HHA.out with ⟨_, _, q⟩ | ⟨_, q⟩
                    · exact absurd q hb
                    · exact HI.out.2 bv q
                  obtain ⟨hn1, _⟩ := wneg HWB.out hbl
                  obtain ⟨nb, hnb⟩ : ∃ n, n = -bv := ⟨_, rfl⟩
                  replace hn1 := hn1.trans hnb.symm
                  have HNB := Aside0.mk hnb
                  clear hb hbl hnb
                  by_cases hyn : y = nb
                  · have hy1 : (y != nb) = false := by simpa using hyn
                    have HFY : Aside0 ([y].filter (fun y => y ≠ -bv) = []) := ⟨by
                      have : y = -bv := hyn.trans HNB.out
                      simp [this]⟩
                    clear hyn
                    go_wp2_with (go_at_call 54; refine (an_atom y HWY.out _).mono ?_; rintro e w' ⟨rfl, rfl⟩)
                    go_roundg kj
                    case measure => omega
                    case rel => exact ⟨i + 1, S', by go_num, by omega, by omega, ⟨by rw [HTK.out, List.filter_append, List.foldl_append, ← HS3.out, HFY.out]; rfl⟩, HK⟩
                  · have hy1 : (y != nb) = true := by simpa using hyn
                    have HFY : Aside0 ([y].filter (fun y => y ≠ -bv) = [y]) := ⟨by
                      have : y ≠ -bv := fun q => hyn (q.trans HNB.out.symm)
                      simp [this]⟩
                    clear hyn
                    go_wp2_with (first | (go_at_call 54; refine (an_atom y HWY.out _).mono ?_; rintro e w' ⟨rfl, rfl⟩) | (at_mapUpdate; refine wpList_put_F _ rfl _ _ _ 63 rfl 3 Try.underlying63 Try.underlying3 w.heap.size S' (fun _ => 1) rfl HK.out.1.map HSM.out y 1 rfl rfl HWY.out (by decide) ?_; intro w4 hm4 hg4; have HM4 := Aside0.mk (And.intro hm4 hg4); clear hm4 hg4))
                    go_roundg kj
                    case measure => omega
                    case rel => exact ⟨i + 1, insK S' y, by go_num, by omega, by rw [length_insK]; split <;> omega, ⟨by rw [HTK.out, List.filter_append, List.foldl_append, ← HS3.out, HFY.out]; rfl⟩, ⟨⟨pw_below_grown HK.out.1.b _ HK.out.1.b.size HM4.out.2 (fun k q => by injection q with q; omega), HM4.out.1.congr (List.Perm.refl _) (fun z _ => by unfold updF; split <;> rfl)⟩, fun z hz => (mem_insK.1 hz).elim (HK.out.2 z) (fun q => q ▸ HLY.out)⟩⟩
        · intro x w2 hx hxs hxd hrg hgr hsz hen
          cases gk with
          | zero =>
            exfalso
            have h1 := hrg.le
            rw [List.length_append, List.length_singleton] at h1
            omega
          | succ k2 =>
            have hbw : Below w.heap.size w w2 := HG.out.i.b.grown hgr HG.out.i.b.size (fun j hj => by injection hj with hj; have := HG.out.i.b.size; have := HI.out.1.b.size; omega)
            have HG2 : Aside0 (RgI w wo t (done ++ [x]) w2) := ⟨⟨⟨hbw, hrg.map⟩, hrg⟩⟩
            have hlx := HI.out.2 x hxs
            obtain ⟨hn3, hn4⟩ := wneg hx hlx
            have hxo := HON.out x hxs
            have hy := pw_cell_below hbw HY0.out
            have HXD := Aside0.mk hxd
            have HC2 := Aside0.mk (Kd.C_below HY2.out hbw)
            obtain ⟨nx, hnx⟩ : ∃ n, n = -x := ⟨_, rfl⟩
            replace hn3 := hn3.trans hnx.symm
            rw [← hnx] at hxo
            clear hx hxs hrg hgr hsz hbw hlx hn4 hnx hxd
            by_cases hxb : x = b
            · have hc1 : decide (nx ∈ cl) = true := decide_eq_true (hxo.2 hxb)
              have HC1 := Aside0.mk hc1
              have hv : bv = 0 := by rw [HV0.out, if_neg (hxb ▸ HXD.out)]
              have HV : Aside0 ((if b ∈ done ++ [x] then b else 0) = x) := ⟨by rw [if_pos (by simp [hxb]), hxb]⟩
              clear HV0
              subst hv
              clear hxb hxo hc1
              go_wp2_with (go_at_call 64; refine (an_contains Ac cc cl nx _ HC2.out).mono ?_; rw [HC1.out]; rintro e w' ⟨rfl, rfl⟩)
              go_roundg k2
              case measure => omega
              case rel => exact ⟨done ++ [x], _, by simp; omega, rfl, ⟨HV.out.symm⟩, HG2⟩
            · have hc1 : decide (nx ∈ cl) = false := decide_eq_false (fun q => hxb (hxo.1 q))
              have HC1 := Aside0.mk hc1
              have hv : (if b ∈ done ++ [x] then b else 0) = bv := by
                rw [HV0.out]
                by_cases q : b ∈ done
                · rw [if_pos q, if_pos (by simp [q])]
                · rw [if_neg q, if_neg (by simp [q]; exact fun z => hxb z.symm)]
              have HV := Aside0.mk hv
              clear hxb hxo hc1 hv
              go_wp2_with (go_at_call 64; refine (an_contains Ac cc cl nx _ HC2.out).mono ?_; rw [HC1.out]; rintro e w' ⟨rfl, rfl⟩)
              go_roundg k2
              case measure => omega
              case rel => exact ⟨done ++ [x], _, by simp; omega, rfl, ⟨HV.out.symm⟩, HG2⟩
end Go.Proofs.Ytboalbiicmcljaa.PAN
