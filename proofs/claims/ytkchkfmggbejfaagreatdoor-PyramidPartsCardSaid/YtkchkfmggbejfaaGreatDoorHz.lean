/- The program's check of an image, its levels, and the comparison of equal images. -/
import Derived.Test.YtkchkfmggbejfaaGreatDoorHy
namespace Go.Proofs.YtkchkfmggbejfaaGreatDoor
open Go.RowKit Go.Proofs.YtkchkfmggbejfaaGreatDoorW.PrintWords Go.Proofs.YtkchkfmggbejfaaGreatDoorW.PrintLast Go.Proofs.YtkchkfmggbejfaaGreatDoorW.PrintMore
set_option linter.unusedSimpArgs false

/-! ### the check -/
def unB (x : Int) : Bool := decide (0 ≤ x ∧ x ≤ 65535)
def pxB (p : Pa.S44) : Bool := unB p.f0 && (unB p.f1 && (unB p.f2 && unB p.f3))
theorem un_mn (x : Int) : (x == mn 65535 (mx x 0)) = unB x := by
  unfold unB mn mx
  by_cases h : 0 ≤ x ∧ x ≤ 65535
  · rw [decide_eq_true h, beq_iff_eq]; split <;> split <;> omega
  · rw [decide_eq_false h, beq_eq_false_iff_ne]; split <;> split <;> omega
theorem pxv_f (p : Pa.S44) : Pa.pixel_Valid.f p.f0 p.f1 p.f2 p.f3 = some (pxB p) := by
  unfold Pa.pixel_Valid.f Pa.pixel_Limit.f Pa.pixel_unit.f Pa.num_Clamp.f
  simp only [Option.bind_some, un_mn]
  rfl
theorem unB_iff {x : Int} : unB x = true ↔ unt x := by simp [unB, unt]
theorem pxB_iff {p : Pa.S44} : pxB p = true ↔ vpx p := by
  unfold pxB
  simp only [Bool.and_eq_true, unB_iff]
  exact ⟨fun h => ⟨h.1, h.2.1, h.2.2.1, h.2.2.2⟩, fun h => ⟨h.h0, h.h1, h.h2, h.h3⟩⟩
def sidesB (a b : Int) : Bool := decide (0 ≤ a ∧ a ≤ 256 ∧ 0 ≤ b ∧ b ≤ 256 ∧ (a = 0 ↔ b = 0))
theorem sides_f (a b : Int) : Pa.raster_sides.f a b = some (if sidesB a b = true then 0 else 15) := by
  unfold Pa.raster_sides.f sidesB
  by_cases h1 : a < 0
  · rw [if_pos h1, if_neg (by simp; omega)]
  by_cases h2 : a > 256
  · rw [if_neg h1, if_pos h2, if_neg (by simp; omega)]
  by_cases h3 : b < 0
  · rw [if_neg h1, if_neg h2, if_pos h3, if_neg (by simp; omega)]
  by_cases h4 : b > 256
  · rw [if_neg h1, if_neg h2, if_neg h3, if_pos h4, if_neg (by simp; omega)]
  rw [if_neg h1, if_neg h2, if_neg h3, if_neg h4]
  by_cases h5 : a = 0 <;> by_cases h6 : b = 0
  · rw [if_neg (by simp [h5, h6]), if_pos (by simp [h5, h6])]
  · rw [if_pos (by simp [h5, h6]), if_neg (by simp [h5, h6])]
  · rw [if_pos (by simp [h5, h6]), if_neg (by simp [h5, h6])]
  · have e : ((a == 0) != (b == 0)) = false := by rw [beq_eq_false_iff_ne.2 h5, beq_eq_false_iff_ne.2 h6]; rfl
    rw [e, if_neg (by decide), if_pos (decide_eq_true (by omega))]
/-- The error of an image. -/
def chk (a b : Int) (l : List Pa.S44) : Int := if sidesB a b = true ∧ (l.length : Int) = a * b then (if l.all pxB = true then 0 else 2) else 15
theorem check_l0 {l : List Pa.S44} (hl : l.length ≤ 100000) : ∀ (rest pre : List Pa.S44), l = pre ++ rest → Ev (fun k => Pa.raster_Check.l0 k l (l.length : Int) (pre.length : Int)) (if rest.all pxB = true then 0 else 2)
  | [], pre, e => by
    rw [List.append_nil] at e
    subst e
    refine Ev.step ?_
    simp only [Pa.raster_Check.l0]
    exact Ev.neg (by omega) (Ev.all fun _ => rfl)
  | p :: r, pre, e => by
    have hlen : l.length = pre.length + (r.length + 1) := by rw [e]; simp
    have ih := check_l0 hl r (pre ++ [p]) (by rw [e]; simp)
    refine Ev.step ?_
    simp only [Pa.raster_Check.l0]
    refine Ev.pos (by omega) (Ev.pos (by omega) (Ev.pos (by omega) ?_))
    rw [rd_at e, pxv_f, wone (by omega)]
    refine Ev.of (g := fun k => if pxB p = true then Pa.raster_Check.l0 k l (l.length : Int) ((pre.length + 1 : Nat) : Int) else some 2) ?_ (fun k => rfl)
    rw [List.length_append] at ih
    by_cases hp : pxB p = true
    · have e2 : (if (p :: r).all pxB = true then (0 : Int) else 2) = if r.all pxB = true then 0 else 2 := by simp [hp]
      rw [e2]
      exact Ev.pos hp ih
    · have e2 : (if (p :: r).all pxB = true then (0 : Int) else 2) = 2 := by simp [hp]
      rw [e2]
      exact Ev.neg hp (Ev.all fun _ => rfl)
theorem check_ev (a b : Int) (l : List Pa.S44) : Ev (fun k => Pa.raster_Check.f k a b l) (chk a b l) := by
  unfold Pa.raster_Check.f chk
  rw [sides_f]
  simp only [Option.bind_some]
  by_cases hs : sidesB a b = true
  · rw [if_pos hs]
    refine Ev.pos rfl ?_
    refine Ev.step ?_
    simp only [Pa.raster_Check.j0]
    have hs' : 0 ≤ a ∧ a ≤ 256 ∧ 0 ≤ b ∧ b ≤ 256 ∧ (a = 0 ↔ b = 0) := by simpa [sidesB] using hs
    have hab : a * b ≤ 256 * 256 := Int.mul_le_mul hs'.2.1 hs'.2.2.2.1 hs'.2.2.1 (by decide)
    have hab0 : 0 ≤ a * b := Int.mul_nonneg hs'.1 hs'.2.2.1
    rw [w64 (x := a * b) (by omega) (by omega)]
    by_cases hl : (l.length : Int) = a * b
    · have hbn : ((l.length : Int) != a * b) = false := by rw [hl]; simp
      rw [hbn, if_pos ⟨hs, hl⟩]
      refine Ev.neg (by decide) ?_
      exact check_l0 (by omega) l [] rfl
    · have hbn : ((l.length : Int) != a * b) = true := by simpa using hl
      rw [hbn, if_neg (by rintro ⟨_, h⟩; exact hl h)]
      exact Ev.pos (by trivial) (Ev.all fun _ => rfl)
  · rw [if_neg hs, if_neg (by rintro ⟨h, _⟩; exact hs h)]
    refine Ev.neg (by decide) ?_
    refine Ev.step ?_
    simp only [Pa.raster_Check.j0]
    exact Ev.pos (by trivial) (Ev.all fun _ => rfl)
theorem chk_vim {a b : Int} {l : List Pa.S44} (h : chk a b l = 0) : ∃ A B : Nat, a = A ∧ b = B ∧ vim A B l := by
  unfold chk at h
  split at h
  · rename_i hs
    split at h
    · rename_i hp
      have hs' : 0 ≤ a ∧ a ≤ 256 ∧ 0 ≤ b ∧ b ≤ 256 ∧ (a = 0 ↔ b = 0) := by simpa [sidesB] using hs.1
      have hl := hs.2
      obtain ⟨A, rfl⟩ : ∃ A : Nat, a = A := ⟨a.toNat, by omega⟩
      obtain ⟨B, rfl⟩ : ∃ B : Nat, b = B := ⟨b.toNat, by omega⟩
      refine ⟨A, B, rfl, rfl, by omega, by omega, by omega, ?_, fun p hp' => pxB_iff.1 (List.all_eq_true.1 hp p hp')⟩
      rw [Int.mul_comm, ← Int.natCast_mul] at hl
      exact Int.ofNat.inj hl
    · exact absurd h (by decide)
  · exact absurd h (by decide)
theorem vim_chk {a b : Nat} {l : List Pa.S44} (h : vim a b l) : chk a b l = 0 := by
  have ha := h.ha
  have hb := h.hb
  have hz := h.hz
  unfold chk
  rw [if_pos ⟨by simp [sidesB]; omega, by rw [h.len, Int.natCast_mul, Int.mul_comm]⟩, if_pos (List.all_eq_true.2 fun p hp => pxB_iff.2 (h.px p hp))]

/-! ### levels -/
theorem red_ev {i : Im} (hi : i.ok) : ∀ n, Ev (fun k => red k n i.w i.h i.p) (((redS n i).w : Int), ((redS n i).h : Int), (redS n i).p)
  | 0 => Ev.all fun _ => rfl
  | n + 1 => Ev.bind (red_ev hi n) (half_ev (redS_ok hi n))
theorem szN_half : ∀ (n : Nat) (x : Int), szN (n + 1) x = (szN n x + 1) / 2
  | 0, _ => rfl
  | n + 1, x => szN_half n ((x + 1) / 2)
theorem szN_add (m : Nat) (x : Int) : ∀ n, szN (m + n) x = szN n (szN m x)
  | 0 => rfl
  | n + 1 => by rw [← Nat.add_assoc, szN_half, szN_add m x n, szN_half]
theorem redS_w (i : Im) : ∀ n, ((redS n i).w : Int) = szN n i.w
  | 0 => rfl
  | n + 1 => by
    rw [szN_half, ← redS_w i n]
    show ((((redS n i).w + 1) / 2 : Nat) : Int) = _
    omega
theorem redS_h (i : Im) : ∀ n, ((redS n i).h : Int) = szN n i.h
  | 0 => rfl
  | n + 1 => by
    rw [szN_half, ← redS_h i n]
    show ((((redS n i).h + 1) / 2 : Nat) : Int) = _
    omega
theorem vim_len {a b : Nat} {l : List Pa.S44} (h : vim a b l) : l.length ≤ 65536 := by
  rw [h.len]
  have : b * a ≤ 256 * 256 := Nat.mul_le_mul h.hb h.ha
  omega
theorem lev_t {n : Int} (h0 : 0 ≤ n) (h4 : n ≤ 4) : Pa.pyramid_isLevel.f n = some true := by
  unfold Pa.pyramid_isLevel.f
  rw [if_pos (by omega), decide_eq_true h4]
theorem lvl_nat {n : Nat} (h : n ≤ 4) : lvl (n : Int) = n := by have := lvl_in (n : Int); unfold lvl mn mx at *; split <;> split <;> omega

/-! ### the comparison -/
theorem same_l0 (a b c d : Int) {l : List Pa.S44} (hl : l.length ≤ 100000) : ∀ (n j : Nat), j + n = l.length → Ev (fun k => Pa.imageeditorlaw35_same.l0 k (l.length : Int) (j : Int) a b l c d l) true
  | 0, j, e => by
    refine Ev.step ?_
    simp only [Pa.imageeditorlaw35_same.l0]
    exact Ev.neg (by omega) (Ev.all fun _ => rfl)
  | n + 1, j, e => by
    have ih := same_l0 a b c d hl n (j + 1) (by omega)
    refine Ev.step ?_
    simp only [Pa.imageeditorlaw35_same.l0]
    refine Ev.pos (by omega) (Ev.pos (by omega) (Ev.pos (by omega) (Ev.pos (by omega) ?_)))
    rw [wone (by omega)]
    exact Ev.neg (by simp) ih
theorem same_ev (a b : Int) {l : List Pa.S44} (hl : l.length ≤ 100000) : Ev (fun k => Pa.imageeditorlaw35_same.f k a b l a b l) true := by
  unfold Pa.imageeditorlaw35_same.f
  refine Ev.pos rfl (Ev.pos rfl ?_)
  refine Ev.step ?_
  simp only [Pa.imageeditorlaw35_same.j0]
  refine Ev.neg (by simp) ?_
  exact same_l0 a b a b hl l.length 0 (Nat.zero_add _)
end Go.Proofs.YtkchkfmggbejfaaGreatDoor
