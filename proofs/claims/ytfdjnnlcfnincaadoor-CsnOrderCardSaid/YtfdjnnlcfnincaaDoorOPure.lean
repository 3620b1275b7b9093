/- The plain law of CsnOrder: how two numbers stand, over whole numbers alone. -/
import Derived.Test.YtfdjnnlcfnincaaDoorO3
namespace Go.Proofs.YtfdjnnlcfnincaaDoor.O
open Go.RowKit Go.Proofs.YtfdjnnlcfnincaaDoorW.PrintWords Go.Proofs.YtfdjnnlcfnincaaDoorW.PrintLast

def cmpS (a0 a1 b0 b1 : Int) : Int := if a0 < b0 then -1 else if b0 < a0 then 1 else if a1 < b1 then -1 else if b1 < a1 then 1 else 0
theorem compare_eval (a b : Int) : cmp_Compare_int.f a b = some (if a < b then -1 else if b < a then 1 else 0) := by
  unfold cmp_Compare_int.f cmp_isNaN_int.f
  by_cases h : a < b
  · simp [h]
  · by_cases h2 : b < a <;> simp [h, h2]
theorem or_eval (k : Nat) (x y : Int) : cmp_Or_int.f (k + 3) [x, y] = some (if x = 0 then y else x) := by
  unfold cmp_Or_int.f
  simp only [cmp_Or_int.l0]
  by_cases hx : x = 0
  · by_cases hy : y = 0
    · subst hx; subst hy; simp [rd, wrap64]
    · subst hx; simp [rd, wrap64, hy]
  · simp [rd, hx]
theorem cmp_eval (k : Nat) (a0 a1 b0 b1 : Int) : csn_Cmp.f (k + 3) a0 a1 b0 b1 = some (cmpS a0 a1 b0 b1) := by
  unfold csn_Cmp.f
  rw [compare_eval, compare_eval]
  simp only [Option.bind_some]
  rw [or_eval]
  unfold cmpS
  by_cases h1 : a0 < b0
  · simp [h1]
  · by_cases h2 : b0 < a0 <;> simp [h1, h2]
theorem awake_eval : brooklaw12_awake.f = some true := by
  unfold brooklaw12_awake.f csn_Text.f strconv_Itoa.f csn_Next.f
  simp [Lib.decDigits, wrap64]
  decide +kernel
theorem may_eval (a0 a1 : Int) : brookref12_MayCsn.f a0 a1 = some (decide (0 ≤ a0 ∧ a0 ≤ 4503599627370496 ∧ 0 ≤ a1 ∧ a1 ≤ 4503599627370496)) := by
  unfold brookref12_MayCsn.f
  by_cases h1 : 0 ≤ a0
  · by_cases h2 : a0 ≤ 4503599627370496
    · by_cases h3 : 0 ≤ a1 <;> simp [h1, h2, h3]
    · simp [h1, h2]
  · simp [h1]
theorem cmp_neg (a0 a1 b0 b1 : Int) : cmpS a0 a1 b0 b1 = wrap64 (-cmpS b0 b1 a0 a1) := by
  unfold cmpS wrap64
  split <;> split <;> (try split) <;> (try split) <;> (try split) <;> (try split) <;> omega
theorem cmp_zero (a0 a1 b0 b1 : Int) : (cmpS a0 a1 b0 b1 == 0) = (a0 == b0 && (a1 == b1)) := by
  unfold cmpS
  rw [Bool.eq_iff_iff]
  simp only [beq_iff_eq, Bool.and_eq_true]
  split <;> (try split) <;> (try split) <;> (try split) <;> omega
theorem cmp_trans {a0 a1 b0 b1 c0 c1 : Int} (h1 : cmpS a0 a1 b0 b1 ≤ 0) (h2 : cmpS b0 b1 c0 c1 ≤ 0) : ¬ cmpS a0 a1 c0 c1 > 0 := by
  unfold cmpS at *
  intro h3
  split at h1 <;> (try split at h1) <;> (try split at h1) <;> (try split at h1) <;> (try omega) <;> split at h2 <;> (try split at h2) <;> (try split at h2) <;> (try split at h2) <;> (try omega) <;>
    split at h3 <;> (try split at h3) <;> (try split at h3) <;> (try split at h3) <;> omega
theorem cmp_next {a0 a1 m : Int} (h0 : 0 ≤ a0) (h0' : a0 ≤ 4503599627370496) (h1 : 0 ≤ a1) (h1' : a1 ≤ 4503599627370496) (hm : 0 ≤ m) (hm' : m ≤ 65535) : cmpS (wrap64 (a0 + wrap64 m)) (wrap64 (a1 + 1)) a0 a1 = 1 := by
  have e1 : wrap64 m = m := by unfold wrap64; omega
  have e2 : wrap64 (a0 + m) = a0 + m := by unfold wrap64; omega
  have e3 : wrap64 (a1 + 1) = a1 + 1 := by unfold wrap64; omega
  rw [e1, e2, e3]
  unfold cmpS
  rw [if_neg (by omega)]
  by_cases h : 0 < m
  · rw [if_pos (by omega)]
  · rw [if_neg (by omega), if_neg (by omega), if_pos (by omega)]

/-- THE LAW, over whole numbers. -/
theorem order_true (a0 a1 b0 b1 c0 c1 m : Int) (hm : 0 ≤ m) (hm' : m ≤ 65535) : ∃ k, brooklaw12_CsnOrder.f k a0 a1 b0 b1 c0 c1 m = some true := by
  refine ⟨4, ?_⟩
  unfold brooklaw12_CsnOrder.f
  simp only [may_eval, Option.bind_some]
  have hj : ∀ x, x = true → brooklaw12_CsnOrder.j0 4 m x a0 a1 b0 b1 c0 c1 = some true := by
    intro x hx
    subst hx
    simp only [brooklaw12_CsnOrder.j0, if_true, awake_eval, Option.bind_some]
  by_cases ha : 0 ≤ a0 ∧ a0 ≤ 4503599627370496 ∧ 0 ≤ a1 ∧ a1 ≤ 4503599627370496
  · rw [if_pos (by simpa using ha)]
    split
    · cases hc : decide (0 ≤ c0 ∧ c0 ≤ 4503599627370496 ∧ 0 ≤ c1 ∧ c1 ≤ 4503599627370496) with
      | false => exact hj _ (by simp)
      | true =>
        simp only [brooklaw12_CsnOrder.j0, Bool.not_true]
        rw [if_neg (by decide)]
        simp only [cmp_eval 0, csn_Next.f, awake_eval, Option.bind_some]
        rw [if_pos (cmp_neg _ _ _ _), if_pos (by rw [cmp_zero]; simp), cmp_next ha.1 ha.2.1 ha.2.2.1 ha.2.2.2 hm hm']
        by_cases h1 : cmpS a0 a1 b0 b1 ≤ 0
        · rw [if_pos h1]
          by_cases h2 : cmpS b0 b1 c0 c1 ≤ 0
          · rw [if_pos h2, if_neg (cmp_trans h1 h2)]
            simp
          · rw [if_neg h2]
            simp
        · rw [if_neg h1]
          simp
    · exact hj _ rfl
  · rw [if_neg (by simpa using ha)]
    exact hj _ rfl
end Go.Proofs.YtfdjnnlcfnincaaDoor.O
