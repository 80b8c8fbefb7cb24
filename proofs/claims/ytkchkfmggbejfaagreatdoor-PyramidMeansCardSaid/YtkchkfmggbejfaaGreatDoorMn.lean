/- Means lie between what they are the means of; an image of one color keeps it. -/
import Derived.Test.YtkchkfmggbejfaaGreatDoorHw
namespace Go.Proofs.YtkchkfmggbejfaaGreatDoor
set_option linter.unusedSimpArgs false

theorem alpha_eq (l : List Pa.S44) : (meanS l).f3 = dv (eS l) l.length := by
  unfold meanS
  split
  · rename_i h; rw [h]; rfl
  · rfl
theorem alpha_in {l : List Pa.S44} {lo hi : Int} (hl : 0 < l.length) (h : ∀ p ∈ l, lo ≤ p.f3 ∧ p.f3 ≤ hi) : lo ≤ (meanS l).f3 ∧ (meanS l).f3 ≤ hi := by
  rw [alpha_eq]
  have h1 : lo * (l.length : Int) ≤ eS l := by
    rw [← sm_one]
    exact le_sm (fun p hp => by rw [Int.mul_one]; exact (h p hp).1)
  have h2 : eS l ≤ hi * (l.length : Int) := by
    rw [← sm_one]
    exact sm_le (fun p hp => by rw [Int.mul_one]; exact (h p hp).2)
  exact ⟨le_dv (by omega) h1, dv_le (by omega) h2⟩
theorem dv_same {a b m : Int} (hb : 0 < b) (h1 : a ≤ m * b) (h2 : m * b ≤ a) : dv a b = m := by
  have := dv_le hb h1
  have := le_dv hb h2
  omega
theorem sum_same {g : Pa.S44 → Int} {m : Int} {l : List Pa.S44} (h : ∀ q ∈ l, g q = m) : sm (fun q => g q * q.f3) l = m * eS l := by
  have h1 := sm_le (g := fun q => g q * q.f3) (h := fun q => q.f3) (M := m) (l := l) (fun q hq => by rw [h q hq]; exact Int.le_refl _)
  have h2 := le_sm (g := fun q => g q * q.f3) (h := fun q => q.f3) (M := m) (l := l) (fun q hq => by rw [h q hq]; exact Int.le_refl _)
  exact Int.le_antisymm h1 h2
theorem mean_same {l : List Pa.S44} {p : Pa.S44} (hl : 0 < l.length) (h : ∀ q ∈ l, q = p) (hv : vpx p) (ha : p.f3 ≠ 0) : meanS l = p := by
  have h3 := hv.h3.1
  have hpos : 0 < p.f3 := by omega
  have e1 : eS l = p.f3 * (l.length : Int) := by
    have h1 := sm_le (g := fun q => q.f3) (h := fun _ => 1) (M := p.f3) (l := l) (fun q hq => by rw [h q hq, Int.mul_one]; exact Int.le_refl _)
    have h2 := le_sm (g := fun q => q.f3) (h := fun _ => 1) (M := p.f3) (l := l) (fun q hq => by rw [h q hq, Int.mul_one]; exact Int.le_refl _)
    rw [sm_one] at h1 h2
    exact Int.le_antisymm h1 h2
  have hL : (0 : Int) < (l.length : Int) := by omega
  have he : 0 < eS l := by rw [e1]; exact Int.mul_pos hpos hL
  have a0 : dv (eS l) l.length = p.f3 := dv_same hL (by rw [e1]; exact Int.le_refl _) (by rw [e1]; exact Int.le_refl _)
  have b0 : dv (rS l) (eS l) = p.f0 := dv_same he (Int.le_of_eq (sum_same fun q hq => by rw [h q hq])) (Int.le_of_eq (sum_same fun q hq => by rw [h q hq]).symm)
  have b1 : dv (gS l) (eS l) = p.f1 := dv_same he (Int.le_of_eq (sum_same fun q hq => by rw [h q hq])) (Int.le_of_eq (sum_same fun q hq => by rw [h q hq]).symm)
  have b2 : dv (bS l) (eS l) = p.f2 := dv_same he (Int.le_of_eq (sum_same fun q hq => by rw [h q hq])) (Int.le_of_eq (sum_same fun q hq => by rw [h q hq]).symm)
  unfold meanS
  rw [a0, b0, b1, b2, if_neg ha]
theorem half_same {a b : Nat} {l : List Pa.S44} {p : Pa.S44} (hl : l.length = b * a) (h : ∀ q ∈ l, q = p) (hv : vpx p) (ha : p.f3 ≠ 0) : ∀ q ∈ halfS a b l, q = p := by
  intro q hq
  obtain ⟨x, y, hx, hy, rfl⟩ := grid_mem hq
  exact mean_same (blk_pos hl hx hy) (fun q hq => h q (blk_mem hq)) hv ha
theorem redS_same {i : Im} {p : Pa.S44} (hi : i.ok) (h : ∀ q ∈ i.p, q = p) (hv : vpx p) (ha : p.f3 ≠ 0) : ∀ n, ∀ q ∈ (redS n i).p, q = p
  | 0 => h
  | n + 1 => half_same (redS_ok hi n).len (redS_same hi h hv ha n) hv ha
theorem redS_pos {i : Im} (hi : i.ok) (h : 0 < i.p.length) : ∀ n, 0 < (redS n i).p.length
  | 0 => h
  | n + 1 => by
    have ih := redS_pos hi h n
    rw [(redS_ok hi n).len] at ih
    have h1 : 0 < (redS n i).h := Nat.pos_of_mul_pos_right ih
    have h2 : 0 < (redS n i).w := Nat.pos_of_mul_pos_left ih
    rw [(redS_ok hi (n + 1)).len]
    exact Nat.mul_pos (show 0 < ((redS n i).h + 1) / 2 by omega) (show 0 < ((redS n i).w + 1) / 2 by omega)

/-- The first n of the four pixels that a pixel of half covers. -/
def firstS (a b : Nat) (l : List Pa.S44) (x y n : Nat) : List Pa.S44 := (List.range n).flatMap fun t => cellS a b l (2 * x + t % 2) (2 * y + t / 2)
theorem firstS_succ (a b : Nat) (l : List Pa.S44) (x y n : Nat) : firstS a b l x y (n + 1) = firstS a b l x y n ++ cellS a b l (2 * x + n % 2) (2 * y + n / 2) := by
  simp [firstS, List.range_succ, List.flatMap_append]
theorem firstS_four (a b : Nat) (l : List Pa.S44) (x y : Nat) : firstS a b l x y 4 = blkS a b l x y := by
  rw [firstS_succ, firstS_succ, firstS_succ, firstS_succ]
  simp [firstS, blkS, List.append_assoc]
end Go.Proofs.YtkchkfmggbejfaaGreatDoor
