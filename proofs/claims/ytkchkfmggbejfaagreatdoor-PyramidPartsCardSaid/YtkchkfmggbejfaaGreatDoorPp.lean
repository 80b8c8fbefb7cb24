/- A part of a level is the level of the pixels that it needs. -/
import Derived.Test.YtkchkfmggbejfaaGreatDoorHw
namespace Go.Proofs.YtkchkfmggbejfaaGreatDoor
set_option linter.unusedSimpArgs false

def atS (i : Im) (x y : Nat) : Pa.S44 := (i.p[y * i.w + x]?).getD clearP
def cropS (i : Im) (x y a b : Nat) : Im := ⟨a, b, grid a b fun u v => atS i (x + u) (y + v)⟩
theorem atS_get {i : Im} (hl : i.p.length = i.h * i.w) {x y : Nat} (hx : x < i.w) (hy : y < i.h) : i.p[y * i.w + x]? = some (atS i x y) := by
  have h : y * i.w + x < i.p.length := by rw [hl]; exact idx_lt hx hy
  unfold atS
  rw [List.getElem?_eq_getElem h]; rfl
theorem cropS_ok {i : Im} (hi : i.ok) {x y a b : Nat} (ha : 0 < a) (hb : 0 < b) (hx : x + a ≤ i.w) (hy : y + b ≤ i.h) : (cropS i x y a b).ok := by
  have h1 := hi.ha
  have h2 := hi.hb
  refine ⟨by show a ≤ 256; omega, by show b ≤ 256; omega, by show a = 0 ↔ b = 0; omega, grid_length _ _ _, fun p hp => ?_⟩
  obtain ⟨u, v, hu, hv, rfl⟩ := grid_mem hp
  exact hi.px _ (List.mem_of_getElem? (atS_get hi.len (by omega) (by omega)))
theorem cell_crop {i : Im} (hl : i.p.length = i.h * i.w) {x y a b X Y u v : Nat} (hX : X = x + u) (hY : Y = y + v) (hu : u < a ↔ X < i.w) (hv : v < b ↔ Y < i.h) :
    cellS i.w i.h i.p X Y = cellS a b (cropS i x y a b).p u v := by
  subst hX hY
  unfold cellS
  by_cases h : u < a ∧ v < b
  · rw [if_pos h, if_pos ⟨hu.1 h.1, hv.1 h.2⟩, atS_get hl (hu.1 h.1) (hv.1 h.2)]
    have := grid_get (w := a) (h := b) (fun u v => atS i (x + u) (y + v)) h.1 h.2
    exact congrArg Option.toList this.symm
  · rw [if_neg h, if_neg (fun h' => h ⟨hu.2 h'.1, hv.2 h'.2⟩)]
theorem half_crop {i : Im} (hl : i.p.length = i.h * i.w) {x y a b : Nat} (hx : x + a ≤ (i.w + 1) / 2) (hy : y + b ≤ (i.h + 1) / 2) :
    cropS i.half x y a b = (cropS i (2 * x) (2 * y) (min (2 * x + 2 * a) i.w - 2 * x) (min (2 * y + 2 * b) i.h - 2 * y)).half := by
  have ea : (min (2 * x + 2 * a) i.w - 2 * x + 1) / 2 = a := by omega
  have eb : (min (2 * y + 2 * b) i.h - 2 * y + 1) / 2 = b := by omega
  have e3 : (grid a b fun u v => atS i.half (x + u) (y + v)) = halfS (min (2 * x + 2 * a) i.w - 2 * x) (min (2 * y + 2 * b) i.h - 2 * y) (cropS i (2 * x) (2 * y) (min (2 * x + 2 * a) i.w - 2 * x) (min (2 * y + 2 * b) i.h - 2 * y)).p := by
    unfold halfS
    rw [ea, eb]
    refine grid_congr fun u v hu hv => ?_
    have hg : i.half.p[(y + v) * i.half.w + (x + u)]? = some (meanS (blkS i.w i.h i.p (x + u) (y + v))) := grid_get _ (by omega) (by omega)
    unfold atS
    rw [hg]
    show meanS _ = meanS _
    congr 1
    unfold blkS
    rw [cell_crop hl (x := 2 * x) (y := 2 * y) (u := 2 * u) (v := 2 * v) (X := 2 * (x + u)) (Y := 2 * (y + v)) (a := min (2 * x + 2 * a) i.w - 2 * x) (b := min (2 * y + 2 * b) i.h - 2 * y) (by omega) (by omega) (by omega) (by omega),
      cell_crop hl (x := 2 * x) (y := 2 * y) (u := 2 * u + 1) (v := 2 * v) (X := 2 * (x + u) + 1) (Y := 2 * (y + v)) (a := min (2 * x + 2 * a) i.w - 2 * x) (b := min (2 * y + 2 * b) i.h - 2 * y) (by omega) (by omega) (by omega) (by omega),
      cell_crop hl (x := 2 * x) (y := 2 * y) (u := 2 * u) (v := 2 * v + 1) (X := 2 * (x + u)) (Y := 2 * (y + v) + 1) (a := min (2 * x + 2 * a) i.w - 2 * x) (b := min (2 * y + 2 * b) i.h - 2 * y) (by omega) (by omega) (by omega) (by omega),
      cell_crop hl (x := 2 * x) (y := 2 * y) (u := 2 * u + 1) (v := 2 * v + 1) (X := 2 * (x + u) + 1) (Y := 2 * (y + v) + 1) (a := min (2 * x + 2 * a) i.w - 2 * x) (b := min (2 * y + 2 * b) i.h - 2 * y) (by omega) (by omega) (by omega) (by omega)]
  unfold Im.half
  show Im.mk a b _ = Im.mk _ _ _
  show Im.mk a b _ = Im.mk ((min (2 * x + 2 * a) i.w - 2 * x + 1) / 2) ((min (2 * y + 2 * b) i.h - 2 * y + 1) / 2) _
  rw [ea, eb]
  exact congrArg (Im.mk a b) e3
theorem pow_w (i : Im) : ∀ n, i.w ≤ 2 ^ n * (redS n i).w ∧ i.h ≤ 2 ^ n * (redS n i).h
  | 0 => by simp [redS]
  | n + 1 => by
    obtain ⟨h1, h2⟩ := pow_w i n
    have e : (redS (n + 1) i).w = ((redS n i).w + 1) / 2 := rfl
    have e' : (redS (n + 1) i).h = ((redS n i).h + 1) / 2 := rfl
    rw [e, e', Nat.pow_succ, Nat.mul_assoc, Nat.mul_assoc]
    exact ⟨Nat.le_trans h1 (Nat.mul_le_mul_left _ (by omega)), Nat.le_trans h2 (Nat.mul_le_mul_left _ (by omega))⟩
theorem cut_min {m x a q w : Nat} (h : w ≤ m * q) : min (m * (2 * x + (min (2 * x + 2 * a) q - 2 * x))) w - m * (2 * x) = min (m * 2 * (x + a)) w - m * 2 * x := by
  rcases Nat.lt_or_ge q (2 * x) with h1 | h1
  · have e1 : 2 * x + (min (2 * x + 2 * a) q - 2 * x) = 2 * x := by omega
    have h2 : m * q ≤ m * (2 * x) := Nat.mul_le_mul_left _ (by omega)
    have h3 : m * (2 * x) = m * 2 * x := by rw [Nat.mul_assoc]
    rw [e1]
    omega
  · have e1 : 2 * x + (min (2 * x + 2 * a) q - 2 * x) = min (2 * x + 2 * a) q := by omega
    have h3 : m * (2 * x) = m * 2 * x := by rw [Nat.mul_assoc]
    have h4 : m * (2 * x + 2 * a) = m * 2 * (x + a) := by rw [Nat.mul_assoc m 2, Nat.mul_add 2]
    rw [e1]
    rcases Nat.le_total (2 * x + 2 * a) q with h5 | h5
    · rw [Nat.min_eq_left h5]
      omega
    · rw [Nat.min_eq_right h5]
      have h6 : m * q ≤ m * (2 * x + 2 * a) := Nat.mul_le_mul_left _ h5
      omega
theorem parts_law {i : Im} (hi : i.ok) : ∀ (n : Nat) (x y a b : Nat), 0 < a → 0 < b → x + a ≤ (redS n i).w → y + b ≤ (redS n i).h →
    cropS (redS n i) x y a b = redS n (cropS i (2 ^ n * x) (2 ^ n * y) (min (2 ^ n * (x + a)) i.w - 2 ^ n * x) (min (2 ^ n * (y + b)) i.h - 2 ^ n * y))
  | 0, x, y, a, b, _, _, hx, hy => by
    have hx' : x + a ≤ i.w := hx
    have hy' : y + b ≤ i.h := hy
    have e1 : min (2 ^ 0 * (x + a)) i.w - 2 ^ 0 * x = a := by rw [Nat.pow_zero, Nat.one_mul, Nat.one_mul]; omega
    have e2 : min (2 ^ 0 * (y + b)) i.h - 2 ^ 0 * y = b := by rw [Nat.pow_zero, Nat.one_mul, Nat.one_mul]; omega
    rw [e1, e2, Nat.pow_zero, Nat.one_mul, Nat.one_mul]; rfl
  | n + 1, x, y, a, b, ha, hb, hx, hy => by
    have hx' : x + a ≤ ((redS n i).w + 1) / 2 := hx
    have hy' : y + b ≤ ((redS n i).h + 1) / 2 := hy
    have ih := parts_law hi n (2 * x) (2 * y) (min (2 * x + 2 * a) (redS n i).w - 2 * x) (min (2 * y + 2 * b) (redS n i).h - 2 * y) (by omega) (by omega) (by omega) (by omega)
    obtain ⟨w1, w2⟩ := pow_w i n
    rw [cut_min w1, cut_min w2, ← Nat.mul_assoc, ← Nat.mul_assoc, ← Nat.pow_succ] at ih
    have e := half_crop (redS_ok hi n).len hx' hy'
    show cropS (redS n i).half x y a b = (redS n _).half
    rw [e, ih]
end Go.Proofs.YtkchkfmggbejfaaGreatDoor
