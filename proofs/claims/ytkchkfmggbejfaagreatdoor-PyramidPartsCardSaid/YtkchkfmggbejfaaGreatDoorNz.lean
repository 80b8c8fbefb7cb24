/- Sizes, rectangles and what a level needs: numbers alone (the program's side). -/
import Derived.Test.YtkchkfmggbejfaaGreatDoorPax2
import Derived.Test.YtkchkfmggbejfaaGreatDoorPax5
import Derived.Test.YtkchkfmggbejfaaGreatDoorPax6
import Derived.Test.YtkchkfmggbejfaaGreatDoorPax7
namespace Go.Proofs.YtkchkfmggbejfaaGreatDoor
open Go.RowKit Go.Proofs.YtkchkfmggbejfaaGreatDoorW.PrintWords Go.Proofs.YtkchkfmggbejfaaGreatDoorW.PrintLast Go.Proofs.YtkchkfmggbejfaaGreatDoorW.PrintMore
set_option linter.unusedSimpArgs false

def szN : Nat → Int → Int
  | 0, n => n
  | k + 1, n => szN k ((n + 1) / 2)
def lim (n : Int) : Int := mn 256 (mx n 0)
def lvl (n : Int) : Nat := (mn 4 (mx n 0)).toNat
theorem lim_in (n : Int) : 0 ≤ lim n ∧ lim n ≤ 256 := by unfold lim mn mx; split <;> split <;> omega
theorem lim_id {n : Int} (h0 : 0 ≤ n) (h1 : n ≤ 256) : lim n = n := by unfold lim mn mx; split <;> split <;> omega
theorem lvl_in (n : Int) : lvl n ≤ 4 ∧ mn 4 (mx n 0) = (lvl n : Int) := by unfold lvl mn mx; split <;> split <;> omega
theorem half_step {x : Int} (h0 : 0 ≤ x) (h1 : x ≤ 256) : wrap64 (Int.tdiv (wrap64 (x + 1)) 2) = (x + 1) / 2 ∧ 0 ≤ (x + 1) / 2 ∧ (x + 1) / 2 ≤ 256 := by
  have e : wrap64 (x + 1) = x + 1 := by unfold wrap64; omega
  rw [e, Int.tdiv_eq_ediv_of_nonneg (by omega)]
  refine ⟨?_, by omega, by omega⟩
  unfold wrap64; omega
theorem szN_in : ∀ (d : Nat) {x : Int}, 0 ≤ x → x ≤ 256 → 0 ≤ szN d x ∧ szN d x ≤ 256
  | 0, _, h0, h1 => ⟨h0, h1⟩
  | d + 1, _, h0, h1 => szN_in d (half_step h0 h1).2.1 (half_step h0 h1).2.2
theorem size_l0 (d : Nat) : ∀ (k : Nat) (x y N i : Int), 0 ≤ x → x ≤ 256 → 0 ≤ y → y ≤ 256 → 0 ≤ i → N ≤ 4 → i ≤ N → N - i = d → d < k → Pa.pyramid_Size.l0 k x y N i = some (szN d x, szN d y) := by
  induction d with
  | zero =>
    intro k x y N i _ _ _ _ _ _ _ hd hk
    obtain ⟨k, rfl⟩ : ∃ m, k = m + 1 := ⟨k - 1, by omega⟩
    simp only [Pa.pyramid_Size.l0]
    rw [if_neg (by omega)]; rfl
  | succ d ih =>
    intro k x y N i hx0 hx1 hy0 hy1 hi hN hiN hd hk
    obtain ⟨k, rfl⟩ : ∃ m, k = m + 1 := ⟨k - 1, by omega⟩
    simp only [Pa.pyramid_Size.l0]
    rw [if_pos (by omega), (half_step hx0 hx1).1, (half_step hy0 hy1).1]
    have e : wrap64 (i + 1) = i + 1 := by unfold wrap64; omega
    rw [e]
    exact ih k _ _ N (i + 1) (half_step hx0 hx1).2.1 (half_step hx0 hx1).2.2 (half_step hy0 hy1).2.1 (half_step hy0 hy1).2.2 (by omega) hN (by omega) (by omega) (by omega)
theorem size_f (k : Nat) (w h lv : Int) (hk : 6 ≤ k) : Pa.pyramid_Size.f k w h lv = some (szN (lvl lv) (lim w), szN (lvl lv) (lim h)) := by
  unfold Pa.pyramid_Size.f Pa.num_Clamp.f
  simp only [Option.bind_some]
  have h4 := lvl_in lv
  rw [h4.2]
  exact size_l0 (lvl lv) k (lim w) (lim h) _ 0 (lim_in w).1 (lim_in w).2 (lim_in h).1 (lim_in h).2 (by omega) (by omega) (by omega) (by omega) (by omega)

def spanB (a n : Int) : Bool := decide (-1048576 ≤ a ∧ a ≤ 1048576 ∧ 0 ≤ n ∧ n ≤ 1048576 - a)
def vR (x y a b : Int) : Bool := spanB x a && spanB y b
theorem vR_iff {x y a b : Int} : vR x y a b = true ↔ (-1048576 ≤ x ∧ x ≤ 1048576 ∧ 0 ≤ a ∧ a ≤ 1048576 - x) ∧ (-1048576 ≤ y ∧ y ≤ 1048576 ∧ 0 ≤ b ∧ b ≤ 1048576 - y) := by
  simp [vR, spanB]
theorem span_f (a n : Int) : Pa.rect_span.f a n = some (spanB a n) := by
  unfold Pa.rect_span.f spanB
  by_cases h1 : a ≥ -1048576
  · by_cases h2 : a ≤ 1048576
    · have e : wrap64 (1048576 - a) = 1048576 - a := by unfold wrap64; omega
      by_cases h3 : n ≥ 0
      · rw [if_pos h1, if_pos h2, if_pos h3, e]
        congr 1
        apply decide_eq_decide.2
        omega
      · rw [if_pos h1, if_pos h2, if_neg h3]
        congr 1; symm; apply decide_eq_false; omega
    · rw [if_pos h1, if_neg h2]
      congr 1; symm; apply decide_eq_false; omega
  · rw [if_neg h1]
    congr 1; symm; apply decide_eq_false; omega
theorem valid_f (x y a b : Int) : Pa.rect_Valid.f x y a b = some (vR x y a b) := by
  unfold Pa.rect_Valid.f vR
  rw [span_f, span_f]
  simp only [Option.bind_some]
  cases spanB x a <;> simp
theorem known_f {x y a b : Int} (h : vR x y a b = true) : Pa.rect_known.f x y a b = some (x, y, a, b) := by
  unfold Pa.rect_known.f
  rw [valid_f, h]; rfl
theorem empty_f {x y a b : Int} (h : vR x y a b = true) : Pa.rect_Empty.f x y a b = some (decide (a = 0 ∨ b = 0)) := by
  unfold Pa.rect_Empty.f
  rw [known_f h]
  simp only [Option.bind_some]
  by_cases h1 : a = 0
  · rw [if_pos h1]; simp [h1]
  · rw [if_neg h1]
    by_cases h2 : b = 0 <;> simp [h1, h2]
theorem within_f {x y a b W H : Int} (h : vR x y a b = true) (hn : ¬ (a = 0 ∨ b = 0)) (hW0 : 0 ≤ W) (hW1 : W ≤ 256) (hH0 : 0 ≤ H) (hH1 : H ≤ 256) :
    Pa.rect_Within.f x y a b 0 0 W H = some (decide (0 ≤ x ∧ 0 ≤ y ∧ x + a ≤ W ∧ y + b ≤ H)) := by
  have hv := vR_iff.1 h
  have h2 : vR 0 0 W H = true := vR_iff.2 ⟨by omega, by omega⟩
  unfold Pa.rect_Within.f
  rw [empty_f h, known_f h2]
  simp only [Option.bind_some, hn, decide_false, Bool.false_eq_true, if_false]
  have e1 : wrap64 (x + a) = x + a := by unfold wrap64; omega
  have e2 : wrap64 (y + b) = y + b := by unfold wrap64; omega
  have e3 : wrap64 (0 + W) = W := by unfold wrap64; omega
  have e4 : wrap64 (0 + H) = H := by unfold wrap64; omega
  rw [e1, e2, e3, e4]
  by_cases h3 : x ≥ 0
  · by_cases h4 : y ≥ 0
    · by_cases h5 : x + a ≤ W
      · rw [if_pos h3, if_pos h4, if_pos h5]
        congr 1; apply decide_eq_decide.2; omega
      · rw [if_pos h3, if_pos h4, if_neg h5]
        congr 1; symm; apply decide_eq_false; omega
    · rw [if_pos h3, if_neg h4]
      congr 1; symm; apply decide_eq_false; omega
  · rw [if_neg h3]
    congr 1; symm; apply decide_eq_false; omega
theorem meet_f {x y a b W H : Int} (hx : 0 ≤ x) (hy : 0 ≤ y) (ha : 0 < a) (hb : 0 < b) (hxw : x < W) (hyh : y < H) (hW : W ≤ 256) (hH : H ≤ 256) (hxa : x + a ≤ 100000) (hyb : y + b ≤ 100000) :
    Pa.rect_Meet.f x y a b 0 0 W H = some (x, y, mn (x + a) W - x, mn (y + b) H - y) := by
  have h1 : vR x y a b = true := vR_iff.2 ⟨by omega, by omega⟩
  have h2 : vR 0 0 W H = true := vR_iff.2 ⟨by omega, by omega⟩
  unfold Pa.rect_Meet.f
  rw [known_f h1, known_f h2]
  simp only [Option.bind_some]
  unfold Pa.rect_meet.f Pa.rect_between.f
  have e1 : wrap64 (x + a) = x + a := by unfold wrap64; omega
  have e2 : wrap64 (y + b) = y + b := by unfold wrap64; omega
  have e3 : wrap64 (0 + W) = W := by unfold wrap64; omega
  have e4 : wrap64 (0 + H) = H := by unfold wrap64; omega
  have m1 : mx x 0 = x := by unfold mx; split <;> omega
  have m2 : mx y 0 = y := by unfold mx; split <;> omega
  have n1 : x < mn (x + a) W ∧ mn (x + a) W ≤ 256 := by unfold mn; split <;> omega
  have n2 : y < mn (y + b) H ∧ mn (y + b) H ≤ 256 := by unfold mn; split <;> omega
  have e5 : wrap64 (mn (x + a) W - x) = mn (x + a) W - x := by unfold wrap64; omega
  have e6 : wrap64 (mn (y + b) H - y) = mn (y + b) H - y := by unfold wrap64; omega
  rw [e1, e2, e3, e4, m1, m2, if_neg (by omega), if_neg (by omega)]
  simp only [Option.bind_some]
  rw [e5, e6]
/-- Twice the next size is at most one more. -/
theorem sz_back : ∀ (d : Nat) (x q : Int), 0 ≤ x → q < szN d x → (2 ^ d : Int) * q < x
  | 0, x, q, _, h => by simpa [szN] using h
  | d + 1, x, q, h0, h => by
    have h1 := sz_back d ((x + 1) / 2) q (by omega) h
    have e : (2 ^ (d + 1) : Int) = 2 * 2 ^ d := by rw [Int.pow_succ]; omega
    rw [e, Int.mul_assoc]
    omega
end Go.Proofs.YtkchkfmggbejfaaGreatDoor
