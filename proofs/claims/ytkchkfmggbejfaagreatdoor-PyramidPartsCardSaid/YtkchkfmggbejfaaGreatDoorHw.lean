/- Rasters by index, and the image of half the size in closed form. -/
import Derived.Test.YtkchkfmggbejfaaGreatDoorHv
namespace Go.Proofs.YtkchkfmggbejfaaGreatDoor
set_option linter.unusedSimpArgs false

/-! ### rasters -/
def grid {α : Type} (w h : Nat) (f : Nat → Nat → α) : List α := (List.range h).flatMap fun y => (List.range w).map fun x => f x y
theorem grid_zero {α : Type} (w : Nat) (f : Nat → Nat → α) : grid w 0 f = [] := rfl
theorem grid_succ {α : Type} (w h : Nat) (f : Nat → Nat → α) : grid w (h + 1) f = grid w h f ++ (List.range w).map fun x => f x h := by
  simp [grid, List.range_succ, List.flatMap_append]
theorem grid_length {α : Type} (w h : Nat) (f : Nat → Nat → α) : (grid w h f).length = h * w := by
  induction h with
  | zero => simp [grid]
  | succ h ih => rw [grid_succ, List.length_append, ih]; simp [Nat.succ_mul]
theorem idx_lt {w h x y : Nat} (hx : x < w) (hy : y < h) : y * w + x < h * w := by
  have : (y + 1) * w ≤ h * w := Nat.mul_le_mul_right _ hy
  rw [Nat.succ_mul] at this
  omega
theorem grid_get {α : Type} {w h : Nat} (f : Nat → Nat → α) {x y : Nat} (hx : x < w) (hy : y < h) : (grid w h f)[y * w + x]? = some (f x y) := by
  induction h with
  | zero => omega
  | succ h ih =>
    rw [grid_succ]
    rcases Nat.lt_or_ge y h with h1 | h1
    · rw [List.getElem?_append_left (by rw [grid_length]; exact idx_lt hx h1)]
      exact ih h1
    · obtain rfl : y = h := by omega
      rw [List.getElem?_append_right (by rw [grid_length]; omega), grid_length]
      have e : y * w + x - y * w = x := by omega
      rw [e]
      simp [hx]
theorem idx_split {w h i : Nat} (hi : i < h * w) : i / w < h ∧ i % w < w ∧ i / w * w + i % w = i := by
  have hw : 0 < w := by
    rcases Nat.eq_zero_or_pos w with h0 | h0
    · rw [h0, Nat.mul_zero] at hi; omega
    · exact h0
  refine ⟨(Nat.div_lt_iff_lt_mul hw).2 hi, Nat.mod_lt _ hw, ?_⟩
  rw [Nat.mul_comm]; exact Nat.div_add_mod i w
theorem grid_ext {α : Type} {w h : Nat} {f : Nat → Nat → α} {l : List α} (hl : l.length = h * w) (hf : ∀ x y, x < w → y < h → l[y * w + x]? = some (f x y)) : l = grid w h f := by
  refine List.ext_getElem? fun i => ?_
  rcases Nat.lt_or_ge i (h * w) with hi | hi
  · obtain ⟨h1, h2, h3⟩ := idx_split hi
    have := hf _ _ h2 h1
    rw [← grid_get f h2 h1] at this
    rwa [h3] at this
  · rw [List.getElem?_eq_none (by omega), List.getElem?_eq_none (by rw [grid_length]; exact hi)]
theorem grid_congr {α : Type} {w h : Nat} {f g : Nat → Nat → α} (H : ∀ x y, x < w → y < h → f x y = g x y) : grid w h f = grid w h g :=
  grid_ext (grid_length w h f) fun x y hx hy => by rw [grid_get f hx hy, H x y hx hy]
theorem grid_mem {α : Type} {w h : Nat} {f : Nat → Nat → α} {p : α} (hp : p ∈ grid w h f) : ∃ x y, x < w ∧ y < h ∧ p = f x y := by
  simp only [grid, List.mem_flatMap, List.mem_range, List.mem_map] at hp
  obtain ⟨y, hy, x, hx, e⟩ := hp
  exact ⟨x, y, hx, hy, e.symm⟩

/-! ### half -/
def cellS (a b : Nat) (l : List Pa.S44) (x y : Nat) : List Pa.S44 := if x < a ∧ y < b then (l[y * a + x]?).toList else []
def blkS (a b : Nat) (l : List Pa.S44) (x y : Nat) : List Pa.S44 := cellS a b l (2 * x) (2 * y) ++ cellS a b l (2 * x + 1) (2 * y) ++ (cellS a b l (2 * x) (2 * y + 1) ++ cellS a b l (2 * x + 1) (2 * y + 1))
def halfS (a b : Nat) (l : List Pa.S44) : List Pa.S44 := grid ((a + 1) / 2) ((b + 1) / 2) fun x y => meanS (blkS a b l x y)
/-- A valid image. -/
structure vim (a b : Nat) (l : List Pa.S44) : Prop where
  ha : a ≤ 256
  hb : b ≤ 256
  hz : a = 0 ↔ b = 0
  len : l.length = b * a
  px : ∀ p ∈ l, vpx p
theorem cell_mem {a b : Nat} {l : List Pa.S44} {x y : Nat} {p : Pa.S44} (h : p ∈ cellS a b l x y) : p ∈ l := by
  unfold cellS at h
  split at h
  · rw [Option.mem_toList] at h
    exact List.mem_of_getElem? h
  · cases h
theorem blk_mem {a b : Nat} {l : List Pa.S44} {x y : Nat} {p : Pa.S44} (h : p ∈ blkS a b l x y) : p ∈ l := by
  unfold blkS at h
  simp only [List.mem_append] at h
  rcases h with (h | h) | (h | h) <;> exact cell_mem h
theorem cell_one {a b : Nat} {l : List Pa.S44} (hl : l.length = b * a) {x y : Nat} (hx : x < a) (hy : y < b) : ∃ p, l[y * a + x]? = some p ∧ cellS a b l x y = [p] := by
  have h1 : y * a + x < l.length := by rw [hl]; exact idx_lt hx hy
  refine ⟨l[y * a + x], List.getElem?_eq_getElem h1, ?_⟩
  unfold cellS
  rw [if_pos ⟨hx, hy⟩, List.getElem?_eq_getElem h1]; rfl
theorem blk_pos {a b : Nat} {l : List Pa.S44} (hl : l.length = b * a) {x y : Nat} (hx : x < (a + 1) / 2) (hy : y < (b + 1) / 2) : 0 < (blkS a b l x y).length := by
  obtain ⟨p, _, e⟩ := cell_one hl (x := 2 * x) (y := 2 * y) (by omega) (by omega)
  unfold blkS
  rw [e]; simp
theorem half_vim {a b : Nat} {l : List Pa.S44} (h : vim a b l) : vim ((a + 1) / 2) ((b + 1) / 2) (halfS a b l) := by
  have h1 := h.ha
  have h2 := h.hb
  have h3 := h.hz
  refine ⟨by omega, by omega, by omega, grid_length _ _ _, fun p hp => ?_⟩
  obtain ⟨x, y, hx, hy, rfl⟩ := grid_mem hp
  exact meanS_vpx (fun p hp => h.px p (blk_mem hp)) (blk_pos h.len hx hy)

/-! ### levels -/
structure Im where
  w : Nat
  h : Nat
  p : List Pa.S44
def Im.ok (i : Im) : Prop := vim i.w i.h i.p
def Im.half (i : Im) : Im := ⟨(i.w + 1) / 2, (i.h + 1) / 2, halfS i.w i.h i.p⟩
def redS : Nat → Im → Im
  | 0, i => i
  | n + 1, i => (redS n i).half
theorem redS_ok {i : Im} (h : i.ok) : ∀ n, (redS n i).ok
  | 0 => h
  | n + 1 => half_vim (redS_ok h n)
theorem redS_add (m : Nat) (i : Im) : ∀ n, redS (m + n) i = redS n (redS m i)
  | 0 => rfl
  | n + 1 => congrArg Im.half (redS_add m i n)
end Go.Proofs.YtkchkfmggbejfaaGreatDoor
