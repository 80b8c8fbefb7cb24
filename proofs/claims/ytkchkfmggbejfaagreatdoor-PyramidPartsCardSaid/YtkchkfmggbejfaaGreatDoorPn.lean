/- What PyramidParts' Needs are, as whole numbers that are not negative. -/
import Derived.Test.YtkchkfmggbejfaaGreatDoorNe
import Derived.Test.YtkchkfmggbejfaaGreatDoorSf
import Derived.Test.YtkchkfmggbejfaaGreatDoorPp
import Derived.Test.YtkchkfmggbejfaaGreatDoorPdx1
namespace Go.Proofs.YtkchkfmggbejfaaGreatDoor
open Go.RowKit Go.Proofs.YtkchkfmggbejfaaGreatDoorW.PrintWords Go.Proofs.YtkchkfmggbejfaaGreatDoorW.PrintMore
set_option linter.unusedSimpArgs false

theorem dvalid_f {x y a b : Int} (hv : vR x y a b = true) : Pd.imageeditorref02_Valid.f x y a b = some true := by
  unfold Pd.imageeditorref02_Valid.f
  have h := vR_iff.1 hv
  have e1 : wrap64 (1048576 - x) = 1048576 - x := by unfold wrap64; omega
  have e2 : wrap64 (1048576 - y) = 1048576 - y := by unfold wrap64; omega
  rw [e1, e2, if_neg (by omega), if_neg (by omega), if_neg (by omega), if_neg (by omega), if_pos (by omega), if_pos (by omega), if_pos (by omega)]
  congr 1; apply decide_eq_true; omega
theorem dempty_f {x y a b : Int} (hv : vR x y a b = true) (h : 0 < a ∧ 0 < b) : Pd.imageeditorref02_Empty.f x y a b = some false := by
  unfold Pd.imageeditorref02_Empty.f
  rw [dvalid_f hv]
  simp only [Option.bind_some, if_true]
  rw [if_neg (by omega)]
  congr 1
  rw [beq_eq_false_iff_ne]; omega
theorem dempty_0 : Pd.imageeditorref02_Empty.f 0 0 0 0 = some true := by
  unfold Pd.imageeditorref02_Empty.f
  rw [dvalid_f (by decide)]
  rfl

theorem pow2_nat (n : Nat) : pow2 (n : Int) = ((2 ^ n : Nat) : Int) := by
  unfold pow2
  rw [Int.toNat_natCast]
  exact (Int.natCast_pow 2 n).symm
theorem cut_nat {m x a w : Nat} (h : m * x ≤ w) : mn ((m : Int) * (x : Int) + (m : Int) * (a : Int)) (w : Int) - (m : Int) * (x : Int) = ((min (m * (x + a)) w - m * x : Nat) : Int) := by
  rw [← Int.natCast_mul, ← Int.natCast_mul, Nat.mul_add]
  generalize m * x = p at *
  generalize m * a = q at *
  unfold mn
  split <;> omega
theorem cut_pos {m x a w : Nat} (hm : 0 < m) (ha : 0 < a) (h : m * x < w) : 0 < min (m * (x + a)) w - m * x ∧ m * x + (min (m * (x + a)) w - m * x) ≤ w := by
  have h1 : 0 < m * a := Nat.mul_pos hm ha
  rw [Nat.mul_add]
  generalize m * x = p at *
  generalize m * a = q at *
  omega
theorem parts_no {w h lv x y a b : Int} (hn : ¬ needs w h lv x y a b = (0, 0, 0, 0)) : sideB w = true ∧ sideB h = true ∧ levelB lv = true ∧ vR x y a b = true ∧ emptyB a b = false ∧ fits w h lv x y a b := by
  unfold needs at hn
  split at hn
  · rename_i hc
    simp only [Bool.and_eq_true, decide_eq_true_eq, Bool.not_eq_true'] at hc
    exact ⟨hc.1.1.1.1.1, hc.1.1.1.1.2, hc.1.1.1.2, hc.1.1.2, hc.1.2, hc.2⟩
  · exact absurd rfl hn
theorem parts_needs {i : Im} {lv x y a b : Int} (hn : ¬ needs i.w i.h lv x y a b = (0, 0, 0, 0)) : ∃ n X Y P Q : Nat, lv = n ∧ x = X ∧ y = Y ∧ a = P ∧ b = Q ∧ n ≤ 4 ∧ 0 < P ∧ 0 < Q ∧ X + P ≤ (redS n i).w ∧ Y + Q ≤ (redS n i).h ∧
    2 ^ n * X < i.w ∧ 2 ^ n * Y < i.h ∧
    needs i.w i.h lv x y a b = (((2 ^ n * X : Nat) : Int), ((2 ^ n * Y : Nat) : Int), ((min (2 ^ n * (X + P)) i.w - 2 ^ n * X : Nat) : Int), ((min (2 ^ n * (Y + Q)) i.h - 2 ^ n * Y : Nat) : Int)) := by
  obtain ⟨e1, e2, e3, e4, e5, e6⟩ := parts_no hn
  have h3 := levelB_in e3
  have h4 := vR_iff.1 e4
  have h5 : ¬ (a = 0 ∨ b = 0) := by simpa [emptyB] using e5
  obtain ⟨f1, f2, f3, f4⟩ := e6
  obtain ⟨n, rfl⟩ := Int.eq_ofNat_of_zero_le h3.1
  obtain ⟨X, rfl⟩ := Int.eq_ofNat_of_zero_le f1
  obtain ⟨Y, rfl⟩ := Int.eq_ofNat_of_zero_le f2
  obtain ⟨P, rfl⟩ := Int.eq_ofNat_of_zero_le h4.1.2.2.1
  obtain ⟨Q, rfl⟩ := Int.eq_ofNat_of_zero_le h4.2.2.2.1
  rw [Int.toNat_natCast, ← redS_w] at f3
  rw [Int.toNat_natCast, ← redS_h] at f4
  have g1 : X + P ≤ (redS n i).w := by omega
  have g2 : Y + Q ≤ (redS n i).h := by omega
  have k1 := sz_back n (i.w : Int) (X : Int) (Int.natCast_nonneg _) (by rw [← redS_w]; omega)
  have k2 := sz_back n (i.h : Int) (Y : Int) (Int.natCast_nonneg _) (by rw [← redS_h]; omega)
  have c1 : ((2 ^ n : Nat) : Int) = (2 : Int) ^ n := Int.natCast_pow 2 n
  rw [← c1, ← Int.natCast_mul] at k1 k2
  have k1' : 2 ^ n * X < i.w := Int.ofNat_lt.1 k1
  have k2' : 2 ^ n * Y < i.h := Int.ofNat_lt.1 k2
  refine ⟨n, X, Y, P, Q, rfl, rfl, rfl, rfl, rfl, by omega, by omega, by omega, g1, g2, k1', k2', ?_⟩
  have hc : (sideB i.w && sideB i.h && levelB n && vR X Y P Q && !emptyB P Q && decide (fits i.w i.h n X Y P Q)) = true := by
    rw [e1, e2, e3, e4, e5]
    simp only [Bool.and_self, Bool.not_false, Bool.true_and, decide_eq_true_eq]
    refine ⟨f1, f2, ?_, ?_⟩
    · rw [Int.toNat_natCast, ← redS_w]; exact f3
    · rw [Int.toNat_natCast, ← redS_h]; exact f4
  unfold needs
  rw [if_pos hc, pow2_nat, cut_nat (Nat.le_of_lt k1'), cut_nat (Nat.le_of_lt k2'), Int.natCast_mul, Int.natCast_mul]
end Go.Proofs.YtkchkfmggbejfaaGreatDoor
