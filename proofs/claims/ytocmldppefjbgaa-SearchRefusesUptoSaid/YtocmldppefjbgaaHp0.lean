import Derived.Laws.FloatBits
import Derived.Test.YtocmldppefjbgaaPHPx0
namespace Go.Proofs.Ytocmldppefjbgaa.PHP
open Go.RowKit Go.Proofs.YtocmldppefjbgaaW.PrintWords Go.Proofs.YtocmldppefjbgaaW.PrintLast Go.Proofs.YtocmldppefjbgaaW.PrintMore Go.Proofs.YtocmldppefjbgaaH
set_option linter.unusedVariables false
set_option linter.unusedSimpArgs false
/-! ### floats that are not below 0: rounding rises, comparing is comparing the words -/
open Ieee in
section
/-- a / b rounded to nearest, ties to even -/
def rne (a b : Nat) : Nat := a / b + (decide (b < 2 * (a % b)) || (b == 2 * (a % b) && a / b % 2 == 1)).toNat
theorem rne_up (a b : Nat) (hb : 0 < b) : 2 * a ≤ (2 * rne a b + 1) * b ∧ (2 * a = (2 * rne a b + 1) * b → rne a b % 2 = 0) := by
  have h1 := Nat.div_add_mod a b
  have h2 := Nat.mod_lt a hb
  have hc : (2 * (a / b) + 1) * b = 2 * (b * (a / b)) + b := by rw [Nat.add_mul, Nat.one_mul, Nat.mul_assoc, Nat.mul_comm (a / b) b]
  have hc3 : (2 * (a / b + 1) + 1) * b = 2 * (b * (a / b)) + 3 * b := by rw [show 2 * (a / b + 1) + 1 = 2 * (a / b) + 3 by omega, Nat.add_mul, Nat.mul_assoc, Nat.mul_comm (a / b) b]
  unfold rne
  by_cases q : b < 2 * (a % b)
  · simp only [q, decide_true, Bool.true_or, Bool.toNat_true]
    rw [hc3]
    exact ⟨by omega, fun h => by omega⟩
  · by_cases q2 : b = 2 * (a % b) ∧ a / b % 2 = 1
    · have e : (decide (b < 2 * (a % b)) || (b == 2 * (a % b) && a / b % 2 == 1)) = true := by simp [← q2.1, q2.2]
      rw [e, Bool.toNat_true, hc3]
      exact ⟨by omega, fun h => by omega⟩
    · have e : (decide (b < 2 * (a % b)) || (b == 2 * (a % b) && a / b % 2 == 1)) = false := by
        simp only [q, decide_false, Bool.false_or, Bool.and_eq_false_iff, beq_eq_false_iff_ne, ne_eq]
        by_cases q3 : b = 2 * (a % b)
        · exact .inr (fun q4 => q2 ⟨q3, q4⟩)
        · exact .inl q3
      rw [e, Bool.toNat_false]
      simp only [Nat.add_zero]
      rw [hc]
      exact ⟨by omega, fun h => by
        have q3 : b = 2 * (a % b) := by omega
        have : ¬ a / b % 2 = 1 := fun q4 => q2 ⟨q3, q4⟩
        omega⟩
theorem rne_down (a b : Nat) (hb : 0 < b) : 2 * rne a b * b ≤ 2 * a + b ∧ (2 * rne a b * b = 2 * a + b → rne a b % 2 = 0) := by
  have h1 := Nat.div_add_mod a b
  have h2 := Nat.mod_lt a hb
  have hc : 2 * (a / b) * b = 2 * (b * (a / b)) := by rw [Nat.mul_assoc, Nat.mul_comm (a / b) b]
  have hc3 : 2 * (a / b + 1) * b = 2 * (b * (a / b)) + 2 * b := by rw [show 2 * (a / b + 1) = 2 * (a / b) + 2 by omega, Nat.add_mul, Nat.mul_assoc, Nat.mul_comm (a / b) b]
  unfold rne
  by_cases q : b < 2 * (a % b)
  · simp only [q, decide_true, Bool.true_or, Bool.toNat_true]
    rw [hc3]
    exact ⟨by omega, fun h => by omega⟩
  · by_cases q2 : b = 2 * (a % b) ∧ a / b % 2 = 1
    · have e : (decide (b < 2 * (a % b)) || (b == 2 * (a % b) && a / b % 2 == 1)) = true := by simp [← q2.1, q2.2]
      rw [e, Bool.toNat_true, hc3]
      exact ⟨by omega, fun h => by omega⟩
    · have e : (decide (b < 2 * (a % b)) || (b == 2 * (a % b) && a / b % 2 == 1)) = false := by
        simp only [q, decide_false, Bool.false_or, Bool.and_eq_false_iff, beq_eq_false_iff_ne, ne_eq]
        by_cases q3 : b = 2 * (a % b)
        · exact .inr (fun q4 => q2 ⟨q3, q4⟩)
        · exact .inl q3
      rw [e, Bool.toNat_false]
      simp only [Nat.add_zero]
      rw [hc]
      exact ⟨by omega, fun h => by omega⟩
theorem rne_mono {a b a' b' : Nat} (hb : 0 < b) (hb' : 0 < b') (h : a * b' ≤ a' * b) : rne a b ≤ rne a' b' := by
  refine Nat.le_of_not_lt (fun hlt => ?_)
  obtain ⟨u1, u2⟩ := rne_up a' b' hb'
  obtain ⟨d1, d2⟩ := rne_down a b hb
  obtain ⟨R, hR⟩ : ∃ R, R = rne a' b' := ⟨_, rfl⟩
  obtain ⟨r, hr⟩ : ∃ r, r = rne a b := ⟨_, rfl⟩
  rw [← hR] at u1 u2 hlt
  rw [← hr] at d1 d2 hlt
  have e1 : 2 * (R + 1) * b ≤ 2 * r * b := Nat.mul_le_mul_right _ (by omega)
  have e2 : (2 * R + 1) * b ≤ 2 * a := by
    have : 2 * (R + 1) * b = (2 * R + 1) * b + b := by rw [show 2 * (R + 1) = 2 * R + 1 + 1 by omega, Nat.add_mul (2 * R + 1), Nat.one_mul]
    omega
  -- (2R+1) b b' ≤ 2 a b' ≤ 2 a' b ≤ (2R+1) b' b
  have e3 : (2 * R + 1) * b * b' ≤ 2 * a * b' := Nat.mul_le_mul_right _ e2
  have e4 : 2 * a' * b ≤ (2 * R + 1) * b' * b := Nat.mul_le_mul_right _ u1
  have e5 : 2 * a * b' ≤ 2 * a' * b := by rw [Nat.mul_assoc, Nat.mul_assoc]; exact Nat.mul_le_mul_left _ h
  have e6 : (2 * R + 1) * b' * b = (2 * R + 1) * b * b' := by rw [Nat.mul_assoc, Nat.mul_comm b' b, ← Nat.mul_assoc]
  have t1 : 2 * a' = (2 * R + 1) * b' := Nat.eq_of_mul_eq_mul_right hb (by omega)
  have t2 : 2 * a = (2 * R + 1) * b := Nat.eq_of_mul_eq_mul_right hb' (by omega)
  have t3 : r = R + 1 := by
    have : 2 * r * b ≤ 2 * (R + 1) * b := by rw [show 2 * (R + 1) = 2 * R + 1 + 1 by omega, Nat.add_mul (2 * R + 1), Nat.one_mul]; omega
    have := Nat.le_of_mul_le_mul_right this hb
    omega
  have t4 := u2 t1
  have t5 := d2 (by rw [t3, show 2 * (R + 1) = 2 * R + 1 + 1 by omega, Nat.add_mul (2 * R + 1), Nat.one_mul]; omega)
  omega
theorem rne_same {a b a' b' : Nat} (hb : 0 < b) (hb' : 0 < b') (h : a * b' = a' * b) : rne a b = rne a' b' :=
  Nat.le_antisymm (rne_mono hb hb' (Nat.le_of_eq h)) (rne_mono hb' hb (Nat.le_of_eq h.symm))
theorem cut_rne (neg : Bool) (n drop : Nat) : Toward.even.cut neg n drop = rne n (2 ^ drop) := by
  unfold Toward.cut
  simp only [Nat.one_shiftLeft]
  by_cases h : drop ≤ n.log2 + 2
  · rw [Nat.min_eq_left h]
    rfl
  · rw [Nat.min_eq_right (by omega)]
    have h1 : n < 2 ^ (n.log2 + 1) := Nat.lt_log2_self
    have h2 : 2 ^ (n.log2 + 2) = 2 * 2 ^ (n.log2 + 1) := by rw [Nat.pow_succ, Nat.mul_comm]
    have h3 : 2 ^ (n.log2 + 3) ≤ 2 ^ drop := Nat.pow_le_pow_right (by omega) (by omega)
    have h4 : 2 ^ (n.log2 + 3) = 4 * 2 ^ (n.log2 + 1) := by rw [show n.log2 + 3 = n.log2 + 1 + 2 by omega, Nat.pow_add, Nat.mul_comm]
    have z1 : n / 2 ^ (n.log2 + 2) = 0 := Nat.div_eq_of_lt (by omega)
    have z2 : n % 2 ^ (n.log2 + 2) = n := Nat.mod_eq_of_lt (by omega)
    have z3 : n / 2 ^ drop = 0 := Nat.div_eq_of_lt (by omega)
    have z4 : n % 2 ^ drop = n := Nat.mod_eq_of_lt (by omega)
    unfold rne
    rw [z1, z2, z3, z4]
    have y1 : ¬ 2 ^ (n.log2 + 2) < 2 * n := by omega
    have y2 : ¬ 2 ^ drop < 2 * n := by omega
    simp [y1, y2]
theorem log2_shift {m : Nat} (hm : m ≠ 0) (k : Nat) : (m * 2 ^ k).log2 = m.log2 + k := by
  have h1 : m * 2 ^ k ≠ 0 := Nat.mul_ne_zero hm (Nat.ne_of_gt (Nat.two_pow_pos k))
  have h2 := Nat.log2_self_le hm
  have h3 : m < 2 ^ (m.log2 + 1) := Nat.lt_log2_self
  refine Nat.le_antisymm ?_ ?_
  · refine Nat.le_of_lt_succ ((Nat.log2_lt h1).2 ?_)
    rw [show (m.log2 + k).succ = (m.log2 + 1) + k by omega, Nat.pow_add]
    exact Nat.mul_lt_mul_of_pos_right h3 (Nat.two_pow_pos k)
  · refine (Nat.le_log2 h1).2 ?_
    rw [Nat.pow_add]
    exact Nat.mul_le_mul_right _ h2
theorem log2_mono {a b : Nat} (ha : a ≠ 0) (h : a ≤ b) : a.log2 ≤ b.log2 := (Nat.le_log2 (by omega)).2 (Nat.le_trans (Nat.log2_self_le ha) h)
/-- The word of A * 2 ^ K (A counted in units of 2 ^ K; K is least place at most). -/
def near (f : Format) (K : Int) (A : Nat) : Nat :=
  if A = 0 then 0 else
  min ((max (K + A.log2 - f.fractionBits) f.leastPlace - f.leastPlace).toNat * f.binade + rne A (2 ^ (max (K + A.log2 - f.fractionBits) f.leastPlace - K).toNat)) f.infRung
theorem nearest_near (f : Format) (m : Nat) (i K : Int) (h1 : K ≤ i) (h2 : K ≤ f.leastPlace) : f.nearest false m i = near f K (m * 2 ^ (i - K).toNat) := by
  unfold Format.nearest near
  by_cases h0 : m = 0
  · subst h0
    simp [Format.word]
  · have hA : m * 2 ^ (i - K).toNat ≠ 0 := Nat.mul_ne_zero h0 (Nat.ne_of_gt (Nat.two_pow_pos _))
    rw [if_neg h0, if_neg hA, log2_shift h0]
    have e : K + ((m.log2 + (i - K).toNat : Nat) : Int) - f.fractionBits = i + m.log2 - f.fractionBits := by omega
    rw [e]
    obtain ⟨last, hl⟩ : ∃ l, l = max (i + m.log2 - f.fractionBits) f.leastPlace := ⟨_, rfl⟩
    rw [← hl]
    have hK : K ≤ last := by omega
    simp only [Format.word, Bool.false_eq_true, if_false]
    congr 2
    rw [cut_rne, Nat.shiftLeft_eq]
    refine rne_same (Nat.two_pow_pos _) (Nat.two_pow_pos _) ?_
    rw [Nat.mul_assoc, Nat.mul_assoc, ← Nat.pow_add, ← Nat.pow_add]
    congr 2
    omega
theorem near_mono (f : Format) (K : Int) (hK : K ≤ f.leastPlace) {A B : Nat} (h : A ≤ B) : near f K A ≤ near f K B := by
  unfold near
  by_cases hA : A = 0
  · rw [if_pos hA]; exact Nat.zero_le _
  have hB : B ≠ 0 := by omega
  rw [if_neg hA, if_neg hB]
  have hl := log2_mono hA h
  obtain ⟨la, hla⟩ : ∃ l, l = max (K + A.log2 - f.fractionBits) f.leastPlace := ⟨_, rfl⟩
  obtain ⟨lb, hlb⟩ : ∃ l, l = max (K + B.log2 - f.fractionBits) f.leastPlace := ⟨_, rfl⟩
  rw [← hla, ← hlb]
  have hab : la ≤ lb := by omega
  refine Nat.le_min.2 ⟨Nat.le_trans (Nat.min_le_left _ _) ?_, Nat.min_le_right _ _⟩
  by_cases he : la = lb
  · rw [he]
    exact Nat.add_le_add_left (rne_mono (Nat.two_pow_pos _) (Nat.two_pow_pos _) (Nat.mul_le_mul_right _ h)) _
  · have hF : K + B.log2 - f.fractionBits = lb := by omega
    have hbin : f.binade = 2 ^ f.fractionBits := rfl
    -- rne of B is a binade at least
    have h1 : f.binade ≤ rne B (2 ^ (lb - K).toNat) := by
      have q : 2 ^ f.fractionBits * 2 ^ (lb - K).toNat ≤ B := by
        rw [← Nat.pow_add, show f.fractionBits + (lb - K).toNat = B.log2 by omega]
        exact Nat.log2_self_le hB
      have : rne (2 ^ f.fractionBits) 1 ≤ rne B (2 ^ (lb - K).toNat) := rne_mono (by omega) (Nat.two_pow_pos _) (by omega)
      have z : rne (2 ^ f.fractionBits) 1 = 2 ^ f.fractionBits := by unfold rne; simp [Nat.mod_one]
      omega
    have h2 : rne A (2 ^ (la - K).toNat) ≤ 2 * f.binade := by
      have q : A ≤ 2 * 2 ^ f.fractionBits * 2 ^ (la - K).toNat := by
        have : A < 2 ^ (A.log2 + 1) := Nat.lt_log2_self
        refine Nat.le_of_lt (Nat.lt_of_lt_of_le this ?_)
        rw [show 2 * 2 ^ f.fractionBits * 2 ^ (la - K).toNat = 2 ^ (f.fractionBits + 1 + (la - K).toNat) by rw [Nat.pow_add, Nat.pow_add, Nat.pow_one, Nat.mul_comm (2 ^ f.fractionBits) 2]]
        exact Nat.pow_le_pow_right (by omega) (by omega)
      have : rne A (2 ^ (la - K).toNat) ≤ rne (2 * 2 ^ f.fractionBits) 1 := rne_mono (Nat.two_pow_pos _) (by omega) (by omega)
      have z : rne (2 * 2 ^ f.fractionBits) 1 = 2 * 2 ^ f.fractionBits := by unfold rne; simp [Nat.mod_one]
      omega
    have h3 : ((la - f.leastPlace).toNat + 1) * f.binade ≤ (lb - f.leastPlace).toNat * f.binade := Nat.mul_le_mul_right _ (by omega)
    rw [Nat.add_mul, Nat.one_mul] at h3
    omega
end

open Ieee in
section
abbrev D := Ieee.double
/-- a word's number in units of the least place -/
def val (x : Nat) : Nat := if x < 4503599627370496 then x else (4503599627370496 + x % 4503599627370496) * 2 ^ (x / 4503599627370496 - 1)
def inf : Nat := 9218868437227405312
theorem D_inf : D.infRung = inf := by decide
theorem D_bin : D.binade = 4503599627370496 := by decide
theorem D_least : D.leastPlace = -1074 := by decide
theorem D_sign : D.signWeight = 9223372036854775808 := by decide
theorem val_lt {x y : Nat} (h : x < y) : val x < val y := by
  have step : ∀ x, val x < val (x + 1) := by
    intro x
    unfold val
    by_cases h1 : x + 1 < 4503599627370496
    · rw [if_pos (by omega), if_pos h1]; omega
    · rw [if_neg h1]
      by_cases h2 : x < 4503599627370496
      · have e : x + 1 = 4503599627370496 := by omega
        rw [if_pos h2, e]
        simp
        omega
      · rw [if_neg h2]
        by_cases h3 : (x + 1) % 4503599627370496 = 0
        · have e1 : x % 4503599627370496 = 4503599627370495 := by omega
          have e2 : (x + 1) / 4503599627370496 = x / 4503599627370496 - 1 + 1 + 1 := by omega
          rw [h3, e1, e2, Nat.add_sub_cancel, Nat.pow_succ]
          have := Nat.two_pow_pos (x / 4503599627370496 - 1)
          omega
        · have e1 : (x + 1) % 4503599627370496 = x % 4503599627370496 + 1 := by omega
          have e2 : (x + 1) / 4503599627370496 = x / 4503599627370496 := by omega
          rw [e1, e2]
          exact Nat.mul_lt_mul_of_pos_right (by omega) (Nat.two_pow_pos _)
  induction y with
  | zero => omega
  | succ y ih =>
    by_cases he : x = y
    · subst he; exact step x
    · exact Nat.lt_trans (ih (by omega)) (step y)
theorem val_le {x y : Nat} (h : x ≤ y) : val x ≤ val y := by
  by_cases he : x = y
  · rw [he]; exact Nat.le_refl _
  · exact Nat.le_of_lt (val_lt (by omega))
theorem read_val {x : Nat} (h : x < inf) : ∃ (m : Nat) (k : Nat), D.read x = .number false m (-1074 + (k : Int)) ∧ m * 2 ^ k = val x ∧ (x ≠ 0 → m ≠ 0) ∧ m < 9007199254740992 := by
  have hi : inf = 9218868437227405312 := rfl
  have hn : (x / 9223372036854775808 % 2 == 1) = false := by
    rw [Nat.div_eq_of_lt (by omega)]
    rfl
  have hm : x % 9223372036854775808 = x := Nat.mod_eq_of_lt (by omega)
  unfold Format.read
  simp only [D_sign, D_bin, D_inf, D_least, hn, hm]
  unfold val
  by_cases h1 : x < 4503599627370496
  · rw [if_pos h1, if_pos h1]
    exact ⟨x, 0, by simp, by simp, id, by omega⟩
  · rw [if_neg h1, if_neg h1, if_pos h]
    exact ⟨_, x / 4503599627370496 - 1, rfl, rfl, fun _ => by omega, by omega⟩
theorem base_min (k l : Nat) : ((-1074 + (k : Int)) - min (-1074 + (k : Int)) (-1074 + (l : Int))).toNat = k - min k l := by omega
theorem pow_min (m k l : Nat) : m * 2 ^ k = m * 2 ^ (k - min k l) * 2 ^ (min k l) := by
  rw [Nat.mul_assoc, ← Nat.pow_add]
  congr 2
  omega
theorem order_words {x y : Nat} (hx : x < inf) (hy : y < inf) : D.order x y = some (compare x y) := by
  obtain ⟨m, k, e1, v1, _⟩ := read_val hx
  obtain ⟨n, l, e2, v2, _⟩ := read_val hy
  unfold Format.order
  rw [e1, e2]
  have e3 : min (-1074 + (l : Int)) (-1074 + (k : Int)) = min (-1074 + (k : Int)) (-1074 + (l : Int)) := by omega
  simp only [Datum.order, base_min]
  rw [← e3, base_min]
  simp only [signed, Bool.false_eq_true, if_false, Nat.shiftLeft_eq]
  have hp := Nat.two_pow_pos (min k l)
  have q1 := pow_min m k l
  have q2 := pow_min n l k
  rw [Nat.min_comm l k] at q2
  rw [Nat.min_comm l k]
  rw [v1] at q1
  rw [v2] at q2
  obtain ⟨a, ha⟩ : ∃ a, a = m * 2 ^ (k - min k l) := ⟨_, rfl⟩
  obtain ⟨b, hb⟩ : ∃ b, b = n * 2 ^ (l - min k l) := ⟨_, rfl⟩
  rw [← ha] at q1 ⊢
  rw [← hb] at q2 ⊢
  show some (compareOfLessAndEq (a : Int) (b : Int)) = some (compareOfLessAndEq x y)
  rcases Nat.lt_trichotomy x y with h | h | h
  · have := val_lt h
    have : a < b := Nat.lt_of_mul_lt_mul_right (a := 2 ^ min k l) (by omega)
    simp [compareOfLessAndEq, h, this]
  · subst h
    have : a = b := Nat.eq_of_mul_eq_mul_right hp (by omega)
    simp [compareOfLessAndEq, this]
  · have := val_lt h
    have : b < a := Nat.lt_of_mul_lt_mul_right (a := 2 ^ min k l) (by omega)
    have z1 : ¬ a < b := by omega
    have z2 : ¬ (a : Int) = (b : Int) := by omega
    have z3 : ¬ x < y := by omega
    have z4 : ¬ x = y := by omega
    simp [compareOfLessAndEq, z1, z2, z3, z4]
theorem add_words {x y : Nat} (hx : x < inf) (hy : y < inf) : D.add x y = some (near D (-1074) (val x + val y)) := by
  obtain ⟨m, k, e1, v1, _⟩ := read_val hx
  obtain ⟨n, l, e2, v2, _⟩ := read_val hy
  unfold Format.add
  rw [e1, e2]
  have e3 : min (-1074 + (l : Int)) (-1074 + (k : Int)) = min (-1074 + (k : Int)) (-1074 + (l : Int)) := by omega
  simp only [Datum.sum, base_min, Option.map_some]
  rw [← e3, base_min]
  simp only [signed, Bool.false_eq_true, if_false, Nat.shiftLeft_eq, Bool.and_self]
  rw [Nat.min_comm l k]
  have hneg : (if ((m * 2 ^ (k - min k l) : Nat) : Int) + ((n * 2 ^ (l - min k l) : Nat) : Int) = 0 then false else decide (((m * 2 ^ (k - min k l) : Nat) : Int) + ((n * 2 ^ (l - min k l) : Nat) : Int) < 0)) = false := by
    split
    · rfl
    · exact decide_eq_false (by omega)
  have hab : (((m * 2 ^ (k - min k l) : Nat) : Int) + ((n * 2 ^ (l - min k l) : Nat) : Int)).natAbs = m * 2 ^ (k - min k l) + n * 2 ^ (l - min k l) := by omega
  simp only [Format.write]
  rw [hneg, hab, nearest_near D _ _ (-1074) (by omega) (by rw [D_least]; decide)]
  congr 2
  rw [e3, show (min (-1074 + (k : Int)) (-1074 + (l : Int)) - -1074).toNat = min k l by omega, Nat.add_mul, ← pow_min, Nat.min_comm k l, ← pow_min, v1, v2]
theorem add_mono {x y x' y' r : Nat} (hx : x ≤ x') (hy : y ≤ y') (hx' : x' < inf) (hy' : y' < inf) (h : D.add x' y' = some r) : ∃ q, D.add x y = some q ∧ q ≤ r := by
  rw [add_words hx' hy'] at h
  injection h with h
  subst h
  exact ⟨_, add_words (by omega) (by omega), near_mono D _ (by rw [D_least]; decide) (Nat.add_le_add (val_le hx) (val_le hy))⟩
theorem mul_words {x y : Nat} (hx : x < inf) (hy : y < inf) : D.mul x y = some (near D (-2148) (val x * val y)) := by
  obtain ⟨m, k, e1, v1, _⟩ := read_val hx
  obtain ⟨n, l, e2, v2, _⟩ := read_val hy
  unfold Format.mul
  rw [e1, e2]
  simp only [Datum.product, Option.map_some, Format.write, Bool.xor_self]
  rw [nearest_near D _ _ (-2148) (by omega) (by rw [D_least]; decide)]
  congr 2
  rw [show (-1074 + (k : Int) + (-1074 + (l : Int)) - -2148).toNat = k + l by omega, ← v1, ← v2, Nat.pow_add]
  rw [Nat.mul_assoc, Nat.mul_assoc]
  congr 1
  rw [← Nat.mul_assoc, Nat.mul_comm n, Nat.mul_assoc]
theorem mul_mono {x y x' y' r : Nat} (hx : x ≤ x') (hy : y ≤ y') (hx' : x' < inf) (hy' : y' < inf) (h : D.mul x' y' = some r) : ∃ q, D.mul x y = some q ∧ q ≤ r := by
  rw [mul_words hx' hy'] at h
  injection h with h
  subst h
  exact ⟨_, mul_words (by omega) (by omega), near_mono D _ (by rw [D_least]; decide) (Nat.mul_le_mul (val_le hx) (val_le hy))⟩
def great : Nat := 6103021453049119613
def small : Nat := 3110860544497550640
def fade : Nat := 4606732058837280358
def one : Nat := 4607182418800017408
def lo : Nat := 4352464011485697175
def half : Nat := 5859183115209015296
def twice : Nat := 6107525052676490109
theorem read_fade : D.read fade = .number false 8556839292003942 (-53) := by decide +kernel
theorem div_fade {x : Nat} (h0 : x ≠ 0) (hx : x < inf) : ∃ q, D.div x fade = some q ∧ near D (-1128) (val x * 2 ^ 54) ≤ q ∧ q ≤ near D (-1128) (2 * val x * 2 ^ 54) := by
  obtain ⟨m, k, e1, v1, hm0, hm1⟩ := read_val hx
  have hm := hm0 h0
  have hlog : m.log2 ≤ 52 := Nat.le_of_lt_succ ((Nat.log2_lt hm).2 (Nat.lt_of_lt_of_le hm1 (by decide)))
  have hself := Nat.log2_self_le hm
  obtain ⟨c, hc⟩ : ∃ c, c = 106 - m.log2 := ⟨_, rfl⟩
  obtain ⟨M, hM⟩ : ∃ M, M = m * 2 ^ c := ⟨_, rfl⟩
  have hMge : 2 ^ 106 ≤ M := by
    rw [hM, show (2 : Nat) ^ 106 = 2 ^ m.log2 * 2 ^ c by rw [← Nat.pow_add]; congr 1; omega]
    exact Nat.mul_le_mul_right _ hself
  have hq : D.div x fade = some (D.nearest false (2 * (M / 8556839292003942) + (M % 8556839292003942 != 0).toNat) ((-1074 + (k : Int)) - (-53) - (c : Int) - 1)) := by
    unfold Format.div
    rw [e1, read_fade]
    have hl : (8556839292003942 : Nat).log2 = 52 := by decide +kernel
    simp only [Datum.quotient, Bool.xor_self]
    rw [if_neg (by decide), hl, show D.fractionBits + 2 + 52 - m.log2 = c by rw [hc]; rfl, Nat.shiftLeft_eq, ← hM]
    rfl
  obtain ⟨V, hV⟩ : ∃ V, V = 2 * (M / 8556839292003942) + (M % 8556839292003942 != 0).toNat := ⟨_, rfl⟩
  have hV1 : 2 * M ≤ V * 8556839292003942 + 8556839292003942 ∧ V * 8556839292003942 ≤ 2 * M + 8556839292003942 := by
    by_cases hr : M % 8556839292003942 = 0
    · have : (M % 8556839292003942 != 0) = false := by simp [hr]
      rw [this] at hV
      simp only [Bool.toNat_false] at hV
      omega
    · have : (M % 8556839292003942 != 0) = true := by simp [hr]
      rw [this] at hV
      simp only [Bool.toNat_true] at hV
      omega
  rw [← hV, nearest_near D _ _ (-1128) (by omega) (by rw [D_least]; decide)] at hq
  refine ⟨_, hq, ?_, ?_⟩
  all_goals
    refine near_mono D _ (by rw [D_least]; decide) ?_
    rw [show ((-1074 + (k : Int)) - (-53) - (c : Int) - 1 - -1128).toNat = k + (106 - c) by omega]
    rw [← v1]
    have e2 : m * 2 ^ k * 2 ^ 54 * 2 ^ c = M * 2 ^ k * 2 ^ 54 := by rw [hM, Nat.mul_right_comm (m * 2 ^ k), Nat.mul_right_comm m]
    have e3 : V * 2 ^ (k + (106 - c)) * 2 ^ c = V * 2 ^ k * 2 ^ 106 := by rw [Nat.mul_assoc, ← Nat.pow_add, Nat.mul_assoc, ← Nat.pow_add]; congr 2; omega
    refine Nat.le_of_mul_le_mul_right (c := 2 ^ c) ?_ (Nat.two_pow_pos _)
  · rw [e2, e3]
    have : M * 2 ^ 54 ≤ V * 2 ^ 106 := by omega
    calc M * 2 ^ k * 2 ^ 54 = M * 2 ^ 54 * 2 ^ k := Nat.mul_right_comm _ _ _
      _ ≤ V * 2 ^ 106 * 2 ^ k := Nat.mul_le_mul_right _ this
      _ = _ := Nat.mul_right_comm _ _ _
  · rw [e3, show 2 * (m * 2 ^ k) * 2 ^ 54 * 2 ^ c = 2 * (m * 2 ^ k * 2 ^ 54 * 2 ^ c) by simp only [Nat.mul_assoc], e2]
    have : V * 2 ^ 106 ≤ 2 * (M * 2 ^ 54) := by omega
    calc V * 2 ^ k * 2 ^ 106 = V * 2 ^ 106 * 2 ^ k := Nat.mul_right_comm _ _ _
      _ ≤ 2 * (M * 2 ^ 54) * 2 ^ k := Nat.mul_le_mul_right _ this
      _ = 2 * (M * 2 ^ k * 2 ^ 54) := by rw [Nat.mul_assoc, Nat.mul_right_comm M]
/-- step / 0.95 -/
theorem fade_words {x : Nat} (h0 : lo ≤ x) (h1 : x ≤ great) : ∃ q, D.div x fade = some q ∧ lo ≤ q ∧ q ≤ twice := by
  have hg : great < inf := by decide +kernel
  obtain ⟨q, e, h2, h3⟩ := div_fade (x := x) (by unfold lo at h0; omega) (by omega)
  refine ⟨q, e, Nat.le_trans ?_ h2, Nat.le_trans h3 ?_⟩
  · have : lo ≤ near D (-1128) (val lo * 2 ^ 54) := by decide +kernel
    exact Nat.le_trans this (near_mono D _ (by rw [D_least]; decide) (Nat.mul_le_mul_right _ (val_le h0)))
  · have : near D (-1128) (2 * val great * 2 ^ 54) ≤ twice := by decide +kernel
    exact Nat.le_trans (near_mono D _ (by rw [D_least]; decide) (Nat.mul_le_mul_right _ (Nat.mul_le_mul_left _ (val_le h1)))) this
/-- a score and the step -/
theorem bump_words {x s : Nat} (hx : x ≤ great) (h1 : s ≤ great) : ∃ q, D.add x s = some q ∧ q ≤ twice ∧ (great < q → half ≤ s) := by
  have e : D.add great great = some twice := by decide +kernel
  obtain ⟨q, e1, h2⟩ := add_mono hx h1 (by decide +kernel) (by decide +kernel) e
  refine ⟨q, e1, h2, fun hq => Nat.le_of_not_lt (fun hs => ?_)⟩
  have e2 : D.add great half = some great := by decide +kernel
  obtain ⟨q', e3, h3⟩ := add_mono hx (Nat.le_of_lt hs) (by decide +kernel) (by decide +kernel) e2
  rw [e1] at e3
  injection e3 with e3
  omega
/-- what was made small -/
theorem lessen_words {x : Nat} (hx : x ≤ twice) : ∃ q, D.mul x small = some q ∧ q ≤ great ∧ (half ≤ x → lo ≤ q) := by
  obtain ⟨z, e, hz⟩ : ∃ z, D.mul twice small = some z ∧ z ≤ great := ⟨4611686018427387904, by decide +kernel, by decide +kernel⟩
  obtain ⟨q, e1, h2⟩ := mul_mono hx (Nat.le_refl small) (by decide +kernel) (by decide +kernel) e
  refine ⟨q, e1, by omega, fun hh => ?_⟩
  obtain ⟨q', e3, h3⟩ := mul_mono hh (Nat.le_refl small) (Nat.lt_of_le_of_lt hx (by decide +kernel)) (by decide +kernel) e1
  obtain ⟨y, e4, hy⟩ : ∃ y, D.mul half small = some y ∧ lo ≤ y := ⟨4362861240906548528, by decide +kernel, by decide +kernel⟩
  rw [e4] at e3
  injection e3 with e3
  omega
theorem great_inf : great < inf := by decide +kernel
theorem twice_inf : twice < inf := by decide +kernel
theorem half_great : half ≤ great := by decide +kernel
theorem near_val {x : Nat} (h : x < inf) : near D (-1074) (val x) = x := by
  have hi : inf = 9218868437227405312 := rfl
  have hF : ((D.fractionBits : Nat) : Int) = 52 := rfl
  unfold near
  rw [D_least, D_bin, D_inf, hF]
  unfold val
  by_cases h0 : x = 0
  · subst h0; simp
  by_cases h1 : x < 4503599627370496
  · rw [if_pos h1, if_neg h0]
    have hl : x.log2 < 52 := (Nat.log2_lt h0).2 (Nat.lt_of_lt_of_le h1 (by decide))
    have e1 : max (-1074 + (x.log2 : Int) - 52) (-1074) = -1074 := by omega
    rw [e1]
    have e2 : rne x (2 ^ ((-1074 : Int) - -1074).toNat) = x := by
      rw [show ((-1074 : Int) - -1074).toNat = 0 by omega, Nat.pow_zero]
      unfold rne
      simp [Nat.mod_one]
    rw [e2, show ((-1074 : Int) - -1074).toNat = 0 by omega, Nat.zero_mul, Nat.zero_add]
    exact Nat.min_eq_left (Nat.le_of_lt h)
  · rw [if_neg h1]
    obtain ⟨f, hf⟩ : ∃ f, f = 4503599627370496 + x % 4503599627370496 := ⟨_, rfl⟩
    obtain ⟨e, he⟩ : ∃ e, e = x / 4503599627370496 - 1 := ⟨_, rfl⟩
    rw [← hf, ← he]
    have hf0 : f ≠ 0 := by omega
    have hlog : f.log2 = 52 := by
      have a1 : 52 ≤ f.log2 := (Nat.le_log2 hf0).2 (Nat.le_trans (by decide) (show 4503599627370496 ≤ f by omega))
      have a2 : f.log2 < 53 := (Nat.log2_lt hf0).2 (Nat.lt_of_lt_of_le (show f < 9007199254740992 by omega) (by decide))
      omega
    have hA : f * 2 ^ e ≠ 0 := Nat.mul_ne_zero hf0 (Nat.ne_of_gt (Nat.two_pow_pos _))
    rw [if_neg hA, log2_shift hf0, hlog]
    have e1 : max (-1074 + ((52 + e : Nat) : Int) - 52) (-1074) = -1074 + (e : Int) := by omega
    rw [e1]
    have e2 : (-1074 + (e : Int) - -1074).toNat = e := by omega
    rw [e2]
    have e3 : rne (f * 2 ^ e) (2 ^ e) = f := by
      rw [rne_same (a' := f) (b' := 1) (Nat.two_pow_pos _) Nat.one_pos (by omega)]
      unfold rne
      simp [Nat.mod_one]
    rw [e3, show e * 4503599627370496 + f = x by omega]
    exact Nat.min_eq_left (Nat.le_of_lt h)
/-- a score does not fall -/
theorem add_up {x s q : Nat} (hx : x < inf) (hs : s < inf) (h : D.add x s = some q) : x ≤ q := by
  rw [add_words hx hs] at h
  injection h with h
  subst h
  have := near_mono D (-1074) (by rw [D_least]; decide) (Nat.le_add_right (val x) (val s))
  rw [near_val hx] at this
  exact this
end

/-! ### the heap in plain words -/
def gI (l : List Int) (i : Nat) : Int := l.getD i 0
def gW (l : List Nat) (i : Int) : Nat := l.getD i.toNat 0
theorem gI_some {l : List Int} {i : Nat} (h : i < l.length) : l[i]? = some (gI l i) := by simp [gI, List.getD_eq_getElem?_getD, h]
theorem gI_of {l : List Int} {i : Nat} {x : Int} (h : l[i]? = some x) : gI l i = x := by simp [gI, List.getD_eq_getElem?_getD, h]
theorem gI_mem {l : List Int} {i : Nat} (h : i < l.length) : gI l i ∈ l := List.mem_of_getElem? (gI_some h)
theorem gI_set {l : List Int} {i j : Nat} (x : Int) (hi : i < l.length) : gI (l.set i x) j = if i = j then x else gI l j := by
  simp only [gI, List.getD_eq_getElem?_getD, List.getElem?_set]
  by_cases h : i = j
  · subst h; simp [hi]
  · simp [h]
theorem gI_app {l : List Int} {x : Int} {i : Nat} (hi : i < l.length) : gI (l ++ [x]) i = gI l i := by simp [gI, List.getD_eq_getElem?_getD, List.getElem?_append_left hi]
theorem gI_app_at {l : List Int} {x : Int} : gI (l ++ [x]) l.length = x := by simp [gI, List.getD_eq_getElem?_getD]
/-- a is ahead of b -/
def ah (sc : List Nat) (a b : Int) : Bool := if gW sc a = gW sc b then decide (a < b) else decide (gW sc b < gW sc a)
theorem ah_iff {sc : List Nat} {a b : Int} : ah sc a b = true ↔ gW sc b < gW sc a ∨ (gW sc a = gW sc b ∧ a < b) := by
  unfold ah
  by_cases h : gW sc a = gW sc b
  · rw [if_pos h]; simp [h]
  · rw [if_neg h]; simp [h]
theorem ah_trans {sc : List Nat} {a b c : Int} (h : ah sc a b = true) (k : ah sc b c = true) : ah sc a c = true := by
  rw [ah_iff] at *
  omega
theorem ah_total {sc : List Nat} {a b : Int} (h : a ≠ b) (k : ¬ ah sc a b = true) : ah sc b a = true := by
  rw [ah_iff] at *
  omega
theorem ah_irr {sc : List Nat} {a : Int} : ¬ ah sc a a = true := by
  rw [ah_iff]
  omega
/-- Places: each thing that stands in the heap stands where its place says; of those outside (but X) the place is -1. -/
structure WF (n : Nat) (X : Int → Prop) (l pl : List Int) : Prop where
  len : pl.length = n
  rng : ∀ x ∈ l, 0 ≤ x ∧ x < n
  at_ : ∀ (i : Nat) (x : Int), l[i]? = some x → pl[x.toNat]? = some (i : Int)
  out : ∀ v : Nat, v < n → (v : Int) ∉ l → ¬ X v → pl[v]? = some (-1)
theorem WF.inj {n : Nat} {X : Int → Prop} {l pl : List Int} (h : WF n X l pl) {i j : Nat} {x : Int} (hi : l[i]? = some x) (hj : l[j]? = some x) : i = j := by
  have := (h.at_ i x hi).symm.trans (h.at_ j x hj)
  injection this with this
  omega
theorem WF.nodup {n : Nat} {X : Int → Prop} {l pl : List Int} (h : WF n X l pl) : l.Nodup := by
  rw [List.nodup_iff_pairwise_ne, List.pairwise_iff_getElem]
  intro i j hi hj hij e
  have := h.inj (i := i) (j := j) (x := l[i]) (List.getElem?_eq_getElem hi) (by rw [List.getElem?_eq_getElem hj, e])
  omega
theorem WF.ne {n : Nat} {X : Int → Prop} {l pl : List Int} (h : WF n X l pl) {i j : Nat} (hi : i < l.length) (hj : j < l.length) (hij : i ≠ j) : gI l i ≠ gI l j := by
  intro e
  exact hij (h.inj (gI_some hi) (e ▸ gI_some hj))
theorem nodup_sub : ∀ {l r : List Nat}, l.Nodup → (∀ x ∈ l, x ∈ r) → l.length ≤ r.length
  | [], r, _, _ => Nat.zero_le _
  | a :: t, r, h, hs => by
    obtain ⟨h1, h2⟩ := List.nodup_cons.1 h
    have ha := hs a List.mem_cons_self
    have := nodup_sub (r := r.erase a) h2 (fun x hx => (List.mem_erase_of_ne (by intro e; subst e; exact h1 hx)).2 (hs x (List.mem_cons_of_mem _ hx)))
    rw [List.length_erase_of_mem ha] at this
    have := List.length_pos_of_mem ha
    simp only [List.length_cons]
    omega
theorem nodup_len {n : Nat} : ∀ {l : List Int}, l.Nodup → (∀ x ∈ l, 0 ≤ x ∧ x < n) → l.length ≤ n := by
  intro l hn hr
  have h1 : (l.map Int.toNat).Nodup := by
    refine List.pairwise_map.2 (hn.imp_of_mem (fun {a b} ha hb h e => ?_))
    have := hr a ha
    have := hr b hb
    exact h (by omega)
  have h2 : ∀ x ∈ l.map Int.toNat, x ∈ List.range n := fun x hx => by
    obtain ⟨y, hy, rfl⟩ := List.mem_map.1 hx
    have := hr y hy
    exact List.mem_range.2 (by omega)
  have := nodup_sub h1 h2
  simpa using this
theorem WF.le {n : Nat} {X : Int → Prop} {l pl : List Int} (h : WF n X l pl) : l.length ≤ n := nodup_len h.nodup h.rng
/-- Two things change places. -/
theorem WF.swap {n : Nat} {X : Int → Prop} {m q : List Int} (h : WF n X m q) {a p : Nat} {x y : Int} (ha : m[a]? = some x) (hp : m[p]? = some y) (hap : a ≠ p) :
    WF n X ((m.set a y).set p x) ((q.set y.toNat a).set x.toNat p) ∧ ∀ v, v ∈ (m.set a y).set p x ↔ v ∈ m := by
  have hla : a < m.length := (List.getElem?_eq_some_iff.1 ha).1
  have hlp : p < m.length := (List.getElem?_eq_some_iff.1 hp).1
  have hx := h.rng x (List.mem_of_getElem? ha)
  have hy := h.rng y (List.mem_of_getElem? hp)
  have hxy : x ≠ y := fun e => hap (h.inj ha (e ▸ hp))
  have hget : ∀ i : Nat, ((m.set a y).set p x)[i]? = if p = i then some x else if a = i then some y else m[i]? := fun i => by
    rw [List.getElem?_set]
    by_cases h1 : p = i
    · subst h1; simp [hlp]
    · rw [if_neg h1, if_neg h1, List.getElem?_set]
      by_cases h2 : a = i
      · subst h2; simp [hla]
      · rw [if_neg h2, if_neg h2]
  have hmem : ∀ v, v ∈ (m.set a y).set p x ↔ v ∈ m := fun v => by
    rw [List.mem_iff_getElem?, List.mem_iff_getElem?]
    constructor
    · rintro ⟨i, hi⟩
      rw [hget] at hi
      by_cases h1 : p = i
      · rw [if_pos h1] at hi; exact ⟨a, by rw [ha]; exact hi⟩
      · rw [if_neg h1] at hi
        by_cases h2 : a = i
        · rw [if_pos h2] at hi; exact ⟨p, by rw [hp]; exact hi⟩
        · rw [if_neg h2] at hi; exact ⟨i, hi⟩
    · rintro ⟨i, hi⟩
      by_cases h1 : p = i
      · subst h1; exact ⟨a, by rw [hget, if_neg (Ne.symm hap), if_pos rfl, ← hp]; exact hi⟩
      · by_cases h2 : a = i
        · subst h2; exact ⟨p, by rw [hget, if_pos rfl, ← ha]; exact hi⟩
        · exact ⟨i, by rw [hget, if_neg h1, if_neg h2]; exact hi⟩
  refine ⟨⟨by simp [h.len], fun z hz => h.rng z ((hmem z).1 hz), fun i z hi => ?_, fun v hv hn hX => ?_⟩, hmem⟩
  · rw [hget] at hi
    have hql : x.toNat < (q.set y.toNat a).length := by rw [List.length_set, h.len]; omega
    by_cases h1 : p = i
    · rw [if_pos h1] at hi
      injection hi with hi
      subst hi h1
      rw [List.getElem?_set_self hql]
    · rw [if_neg h1] at hi
      by_cases h2 : a = i
      · rw [if_pos h2] at hi
        injection hi with hi
        subst hi h2
        rw [List.getElem?_set_ne (by omega), List.getElem?_set_self (by rw [h.len]; omega)]
      · rw [if_neg h2] at hi
        have hz := h.rng z (List.mem_of_getElem? hi)
        have n1 : z ≠ x := fun e => h2 (h.inj ha (e ▸ hi))
        have n2 : z ≠ y := fun e => h1 (h.inj hp (e ▸ hi))
        rw [List.getElem?_set_ne (by omega), List.getElem?_set_ne (by omega)]
        exact h.at_ i z hi
  · have hn' : (v : Int) ∉ m := fun e => hn ((hmem _).2 e)
    have n1 : (v : Int) ≠ x := fun e => hn' (e ▸ List.mem_of_getElem? ha)
    have n2 : (v : Int) ≠ y := fun e => hn' (e ▸ List.mem_of_getElem? hp)
    rw [List.getElem?_set_ne (by omega), List.getElem?_set_ne (by omega)]
    exact h.out v hv hn' hX
/-- The first one by the order lies on top of each part. -/
def HP (sc : List Nat) (l : List Int) : Prop := ∀ i, 0 < i → i < l.length → ah sc (gI l ((i - 1) / 2)) (gI l i) = true
def HPup (sc : List Nat) (m : List Int) (a : Nat) : Prop := (∀ i, 0 < i → i < m.length → i ≠ a → ah sc (gI m ((i - 1) / 2)) (gI m i) = true) ∧ (∀ i, 0 < i → i < m.length → (i - 1) / 2 = a → 0 < a → ah sc (gI m ((a - 1) / 2)) (gI m i) = true)
def HPdn (sc : List Nat) (m : List Int) (a : Nat) : Prop := (∀ i, 0 < i → i < m.length → (i - 1) / 2 ≠ a → ah sc (gI m ((i - 1) / 2)) (gI m i) = true) ∧ (∀ i, 0 < i → i < m.length → (i - 1) / 2 = a → 0 < a → ah sc (gI m ((a - 1) / 2)) (gI m i) = true)
theorem gI_swap {m : List Int} {a p : Nat} {x y : Int} (ha : a < m.length) (hp : p < m.length) (i : Nat) : gI ((m.set a y).set p x) i = if p = i then x else if a = i then y else gI m i := by
  rw [gI_set x (by simpa using hp)]
  by_cases h : p = i
  · rw [if_pos h, if_pos h]
  · rw [if_neg h, if_neg h, gI_set y ha]
theorem HPup.step {sc : List Nat} {m : List Int} {a : Nat} (h : HPup sc m a) (ha : a < m.length) (h0 : 0 < a) {x y : Int} (hx : gI m a = x) (hy : gI m ((a - 1) / 2) = y) (hxy : ah sc x y = true) : HPup sc ((m.set a y).set ((a - 1) / 2) x) ((a - 1) / 2) := by
  obtain ⟨p, hp⟩ : ∃ p, p = (a - 1) / 2 := ⟨_, rfl⟩
  rw [← hp] at hy ⊢
  have hpa : p < a := by omega
  have g := fun i => gI_swap (m := m) (x := x) (y := y) ha (show p < m.length by omega) i
  refine ⟨fun i i0 i1 i2 => ?_, fun i i0 i1 i2 i3 => ?_⟩
  · simp only [List.length_set] at i1
    rw [g, g, if_neg (Ne.symm i2)]
    by_cases e1 : a = i
    · subst e1
      rw [if_pos rfl, ← hp, if_pos rfl]
      exact hxy
    · rw [if_neg e1]
      have hb := h.1 i i0 i1 (Ne.symm e1)
      by_cases e2 : p = (i - 1) / 2
      · rw [if_pos e2]
        rw [← e2, hy] at hb
        exact ah_trans hxy hb
      · rw [if_neg e2]
        by_cases e3 : a = (i - 1) / 2
        · rw [if_pos e3]
          have := h.2 i i0 i1 e3.symm h0
          rw [← hp, hy] at this
          exact this
        · rw [if_neg e3]
          exact hb
  · simp only [List.length_set] at i1
    have hb := h.1 p i3 (by omega) (by omega)
    rw [g, g, if_neg (show p ≠ (p - 1) / 2 by omega), if_neg (show a ≠ (p - 1) / 2 by omega), if_neg (show p ≠ i by omega)]
    rw [hy] at hb
    by_cases e1 : a = i
    · rw [if_pos e1]
      exact hb
    · rw [if_neg e1]
      have := h.1 i i0 i1 (Ne.symm e1)
      rw [i2, hy] at this
      exact ah_trans hb this
theorem HPup.done {sc : List Nat} {m : List Int} {a : Nat} (h : HPup sc m a) (ha : a < m.length) (hne : 0 < a → gI m a ≠ gI m ((a - 1) / 2)) (hd : 0 < a → ¬ ah sc (gI m a) (gI m ((a - 1) / 2)) = true) : HP sc m := fun i i0 i1 => by
  by_cases e : i = a
  · subst e
    exact ah_total (hne i0) (hd i0)
  · exact h.1 i i0 i1 e
/-- k is the child of a that is ahead of the other. -/
def Best (sc : List Nat) (m : List Int) (a k : Nat) : Prop := 0 < k ∧ k < m.length ∧ (k - 1) / 2 = a ∧ ∀ i, 0 < i → i < m.length → (i - 1) / 2 = a → i ≠ k → ah sc (gI m k) (gI m i) = true
theorem HPdn.step {sc : List Nat} {m : List Int} {a k : Nat} (h : HPdn sc m a) (hk : Best sc m a k) {x y : Int} (hx : gI m a = x) (hy : gI m k = y) (hxy : ah sc y x = true) : HPdn sc ((m.set a y).set k x) k := by
  obtain ⟨k0, k1, k2, k3⟩ := hk
  have hka : a < k := by omega
  have g := fun i => gI_swap (m := m) (x := x) (y := y) (show a < m.length by omega) k1 i
  refine ⟨fun i i0 i1 i2 => ?_, fun i i0 i1 i2 i3 => ?_⟩
  · simp only [List.length_set] at i1
    rw [g, g, if_neg (Ne.symm i2)]
    by_cases e1 : k = i
    · subst e1
      rw [if_pos rfl, if_pos k2.symm]
      exact hxy
    · rw [if_neg e1]
      by_cases e2 : a = (i - 1) / 2
      · rw [if_pos e2, if_neg (show a ≠ i by omega)]
        rw [← hy]
        exact k3 i i0 i1 e2.symm (Ne.symm e1)
      · rw [if_neg e2]
        by_cases e3 : a = i
        · rw [if_pos e3]
          have := h.2 k k0 k1 k2 (by omega)
          rw [hy, e3] at this
          exact this
        · rw [if_neg e3]
          exact h.1 i i0 i1 (Ne.symm e2)
  · simp only [List.length_set] at i1
    rw [g, g, if_neg (show k ≠ (k - 1) / 2 by omega), if_pos k2.symm, if_neg (show k ≠ i by omega), if_neg (show a ≠ i by omega)]
    have := h.1 i i0 i1 (by omega)
    rw [i2, hy] at this
    exact this
theorem HPdn.done {sc : List Nat} {m : List Int} {a : Nat} (h : HPdn sc m a) (hd : ∀ i, 0 < i → i < m.length → (i - 1) / 2 = a → ah sc (gI m a) (gI m i) = true) : HP sc m := fun i i0 i1 => by
  by_cases e : (i - 1) / 2 = a
  · rw [e]; exact hd i i0 i1 e
  · exact h.1 i i0 i1 e
theorem HP.top {sc : List Nat} {l : List Int} (h : HP sc l) : ∀ i, 0 < i → i < l.length → ah sc (gI l 0) (gI l i) = true := by
  intro i
  induction i using Nat.strongRecOn with
  | _ i ih =>
    intro i0 i1
    have := h i i0 i1
    by_cases e : (i - 1) / 2 = 0
    · rw [e] at this; exact this
    · exact ah_trans (ih _ (by omega) (by omega) (by omega)) this
/-- a score rose -/
theorem ah_rose {sc : List Nat} {v : Int} {q : Nat} (hv : v.toNat < sc.length) (hq : gW sc v ≤ q) {a b : Int} (ha : 0 ≤ a) (hb : 0 ≤ b) (hv0 : 0 ≤ v) (hbv : b ≠ v) (h : ah sc a b = true) : ah (sc.set v.toNat q) a b = true := by
  have g : ∀ z : Int, 0 ≤ z → gW (sc.set v.toNat q) z = if z = v then q else gW sc z := fun z hz => by
    simp only [gW, List.getD_eq_getElem?_getD, List.getElem?_set]
    by_cases e : z = v
    · subst e; simp [hv]
    · rw [if_neg (by omega), if_neg e]
  rw [ah_iff] at h ⊢
  rw [g a ha, g b hb, if_neg hbv]
  by_cases e : a = v
  · subst e
    rw [if_pos rfl]
    omega
  · rw [if_neg e]; exact h

theorem mem_gI {l : List Int} {v : Int} : v ∈ l ↔ ∃ i, i < l.length ∧ gI l i = v := by
  constructor
  · intro h
    obtain ⟨i, hi, e⟩ := List.getElem_of_mem h
    exact ⟨i, hi, gI_of (by rw [List.getElem?_eq_getElem hi, e])⟩
  · rintro ⟨i, hi, rfl⟩
    exact gI_mem hi
theorem WF.snoc {n : Nat} {X X' : Int → Prop} {l pl : List Int} (h : WF n X l pl) {x : Int} (hx : x ∉ l) (h0 : 0 ≤ x) (h1 : x < n) (hX : ∀ v, X v → v ≠ x → X' v) : WF n X' (l ++ [x]) (pl.set x.toNat l.length) := by
  refine ⟨by rw [List.length_set]; exact h.len, fun z hz => ?_, fun i z hi => ?_, fun v hv hn hX' => ?_⟩
  · rcases List.mem_append.1 hz with hz | hz
    · exact h.rng z hz
    · rw [List.mem_singleton.1 hz]; exact ⟨h0, h1⟩
  · rw [List.getElem?_append] at hi
    by_cases e : i < l.length
    · rw [if_pos e] at hi
      have hz := h.rng z (List.mem_of_getElem? hi)
      have : z ≠ x := fun e => hx (e ▸ List.mem_of_getElem? hi)
      rw [List.getElem?_set_ne (by omega)]
      exact h.at_ i z hi
    · rw [if_neg e] at hi
      have e2 : i = l.length := by
        have := (List.getElem?_eq_some_iff.1 hi).1
        simp at this
        omega
      subst e2
      simp at hi
      subst hi
      rw [List.getElem?_set_self (by rw [h.len]; omega)]
  · have e1 : (v : Int) ≠ x := fun e => hn (by rw [e]; simp)
    rw [List.getElem?_set_ne (by omega)]
    exact h.out v hv (fun e => hn (List.mem_append_left _ e)) (fun e => hX' (hX _ e e1))
theorem HP.snoc {sc : List Nat} {l : List Int} (h : HP sc l) (x : Int) : HPup sc (l ++ [x]) l.length := by
  refine ⟨fun i i0 i1 i2 => ?_, fun i i0 i1 i2 _ => ?_⟩
  · rw [List.length_append, List.length_singleton] at i1
    rw [gI_app (show (i - 1) / 2 < l.length by omega), gI_app (show i < l.length by omega)]
    exact h i i0 (by omega)
  · rw [List.length_append, List.length_singleton] at i1
    omega
theorem WF.gone {n : Nat} {X : Int → Prop} {l pl : List Int} {x : Int} (h : WF n (fun v => X v ∨ v = x) l pl) (hx : x ∉ l) (h0 : 0 ≤ x) (h1 : x < n) : WF n X l (pl.set x.toNat (-1)) := by
  refine ⟨by rw [List.length_set]; exact h.len, h.rng, fun i z hi => ?_, fun v hv hn hX => ?_⟩
  · have hz := h.rng z (List.mem_of_getElem? hi)
    have : z ≠ x := fun e => hx (e ▸ List.mem_of_getElem? hi)
    rw [List.getElem?_set_ne (by omega)]
    exact h.at_ i z hi
  · by_cases e : (v : Int) = x
    · rw [show x.toNat = v by omega, List.getElem?_set_self (by rw [h.len]; exact hv)]
    · rw [List.getElem?_set_ne (by omega)]
      exact h.out v hv hn (fun q => q.elim hX e)
theorem WF.more {n : Nat} {X X' : Int → Prop} {l pl : List Int} (h : WF n X l pl) (hX : ∀ v, X v → X' v) : WF n X' l pl := ⟨h.len, h.rng, h.at_, fun v hv hn hx => h.out v hv hn (fun q => hx (hX _ q))⟩
/-- what Pop does before down -/
theorem pop_start {n : Nat} {X : Int → Prop} {sc : List Nat} {l pl : List Int} {k : Nat} (h : WF n X l pl) (hp : HP sc l) (hk : l.length = k + 1) (h0 : 0 < k) :
    WF n (fun v => X v ∨ v = gI l 0) ((l.take k).set 0 (gI l k)) (pl.set (gI l k).toNat 0) ∧ HPdn sc ((l.take k).set 0 (gI l k)) 0 ∧ (∀ v, v ∈ (l.take k).set 0 (gI l k) ↔ v ∈ l ∧ v ≠ gI l 0) := by
  have hlen : (l.take k).length = k := by rw [List.length_take]; omega
  have hgt : ∀ i, i < k → gI (l.take k) i = gI l i := fun i hi => by simp [gI, List.getD_eq_getElem?_getD, List.getElem?_take, hi]
  have hg : ∀ i, i < k → gI ((l.take k).set 0 (gI l k)) i = if 0 = i then gI l k else gI l i := fun i hi => by
    rw [gI_set _ (by omega)]
    by_cases e : 0 = i
    · rw [if_pos e, if_pos e]
    · rw [if_neg e, if_neg e, hgt i hi]
  have hl' : ((l.take k).set 0 (gI l k)).length = k := by rw [List.length_set, hlen]
  have hmem : ∀ v, v ∈ (l.take k).set 0 (gI l k) ↔ v ∈ l ∧ v ≠ gI l 0 := fun v => by
    rw [mem_gI, mem_gI, hl']
    constructor
    · rintro ⟨i, hi, e⟩
      rw [hg i hi] at e
      by_cases e0 : 0 = i
      · rw [if_pos e0] at e
        subst e
        exact ⟨⟨k, by omega, rfl⟩, h.ne (by omega) (by omega) (by omega)⟩
      · rw [if_neg e0] at e
        subst e
        exact ⟨⟨i, by omega, rfl⟩, h.ne (by omega) (by omega) (by omega)⟩
    · rintro ⟨⟨i, hi, e⟩, hv⟩
      subst e
      have hi0 : i ≠ 0 := fun e => hv (by rw [e])
      by_cases ek : i = k
      · subst ek
        exact ⟨0, h0, by rw [hg 0 h0, if_pos rfl]⟩
      · exact ⟨i, by omega, by rw [hg i (by omega), if_neg (by omega)]⟩
  refine ⟨⟨by rw [List.length_set]; exact h.len, fun z hz => h.rng z ((hmem z).1 hz).1, fun i z hi => ?_, fun v hv hn hX => ?_⟩, ⟨fun i i0 i1 i2 => ?_, fun i _ _ _ i3 => by omega⟩, hmem⟩
  · have hik : i < k := by have := (List.getElem?_eq_some_iff.1 hi).1; omega
    have e := gI_of hi
    rw [hg i hik] at e
    have hkr := h.rng _ (gI_mem (show k < l.length by omega))
    by_cases e0 : 0 = i
    · rw [if_pos e0] at e
      subst e e0
      rw [List.getElem?_set_self (by rw [h.len]; omega)]
      rfl
    · rw [if_neg e0] at e
      subst e
      have hir := h.rng _ (gI_mem (show i < l.length by omega))
      have := h.ne (show i < l.length by omega) (show k < l.length by omega) (by omega)
      rw [List.getElem?_set_ne (by omega)]
      exact h.at_ i _ (gI_some (by omega))
  · have hkr := h.rng _ (gI_mem (show k < l.length by omega))
    have n1 : (v : Int) ≠ gI l 0 := fun e => hX (.inr e)
    have n2 : (v : Int) ∉ l := fun e => hn ((hmem _).2 ⟨e, n1⟩)
    have n3 : (v : Int) ≠ gI l k := fun e => n2 (e ▸ gI_mem (by omega))
    rw [List.getElem?_set_ne (by omega)]
    exact h.out v hv n2 (fun q => hX (.inl q))
  · rw [hl'] at i1
    rw [hg _ (show (i - 1) / 2 < k by omega), hg i i1, if_neg (Ne.symm i2), if_neg (show ¬ 0 = i by omega)]
    exact hp i i0 (by omega)
theorem pop_last {n : Nat} {X : Int → Prop} {l pl : List Int} (h : WF n X l pl) (hk : l.length = 1) : WF n X [] (pl.set (gI l 0).toNat (-1)) := by
  have hr := h.rng _ (gI_mem (show 0 < l.length by omega))
  refine ⟨by rw [List.length_set]; exact h.len, fun z hz => (List.not_mem_nil hz).elim, fun i z hi => by simp at hi, fun v hv _ hX => ?_⟩
  by_cases e : (v : Int) = gI l 0
  · rw [← e, Int.toNat_natCast, List.getElem?_set_self (by rw [h.len]; exact hv)]
  · rw [List.getElem?_set_ne (by omega)]
    refine h.out v hv (fun q => e ?_) hX
    obtain ⟨i, hi, e2⟩ := mem_gI.1 q
    rw [← e2, show i = 0 by omega]
/-- Sorted rows of the same things are the same. -/
theorem sorted_same {sc : List Nat} : ∀ {a b : List Int}, a.Pairwise (fun x y => ah sc x y = true) → b.Pairwise (fun x y => ah sc x y = true) → (∀ v, v ∈ a ↔ v ∈ b) → a = b
  | [], [], _, _, _ => rfl
  | [], y :: b, _, _, h => absurd ((h y).2 List.mem_cons_self) List.not_mem_nil
  | x :: a, [], _, _, h => absurd ((h x).1 List.mem_cons_self) List.not_mem_nil
  | x :: a, y :: b, ha, hb, h => by
    obtain ⟨ha1, ha2⟩ := List.pairwise_cons.1 ha
    obtain ⟨hb1, hb2⟩ := List.pairwise_cons.1 hb
    have e : x = y := by
      rcases List.mem_cons.1 ((h x).1 List.mem_cons_self) with q | q
      · exact q
      · rcases List.mem_cons.1 ((h y).2 List.mem_cons_self) with q2 | q2
        · exact q2.symm
        · exact absurd (ah_trans (ha1 y q2) (hb1 x q)) ah_irr
    subst e
    rw [sorted_same ha2 hb2 (fun v => ?_)]
    constructor
    · intro hv
      rcases List.mem_cons.1 ((h v).1 (List.mem_cons_of_mem _ hv)) with q | q
      · subst q; exact absurd (ha1 v hv) ah_irr
      · exact q
    · intro hv
      rcases List.mem_cons.1 ((h v).2 (List.mem_cons_of_mem _ hv)) with q | q
      · subst q; exact absurd (hb1 v hv) ah_irr
      · exact q
/-- The first of the sorted row is the top. -/
theorem sorted_top {sc : List Nat} {l s : List Int} {x : Int} (hp : HP sc l) (hl : 0 < l.length) (hs : (x :: s).Pairwise (fun x y => ah sc x y = true)) (hm : ∀ v, v ∈ x :: s ↔ v ∈ l) : gI l 0 = x := by
  obtain ⟨i, hi, e⟩ := mem_gI.1 ((hm x).1 List.mem_cons_self)
  by_cases h0 : i = 0
  · rw [← e, h0]
  · have h1 := hp.top i (by omega) hi
    rw [e] at h1
    rcases List.mem_cons.1 ((hm _).2 (gI_mem hl)) with q | q
    · exact q
    · exact absurd (ah_trans h1 ((List.pairwise_cons.1 hs).1 _ q)) ah_irr

end Go.Proofs.Ytocmldppefjbgaa.PHP
