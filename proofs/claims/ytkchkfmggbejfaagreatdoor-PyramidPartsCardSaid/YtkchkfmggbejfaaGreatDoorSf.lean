/- What the calls of PyramidSteps compute. -/
import Derived.Test.YtkchkfmggbejfaaGreatDoorHz
namespace Go.Proofs.YtkchkfmggbejfaaGreatDoor
open Go.RowKit Go.Proofs.YtkchkfmggbejfaaGreatDoorW.PrintWords Go.Proofs.YtkchkfmggbejfaaGreatDoorW.PrintMore
set_option linter.unusedSimpArgs false

theorem size_im {i : Im} (hi : i.ok) {n : Nat} (hn : n ≤ 4) : Pa.pyramid_Size.f 6 i.w i.h n = some (((redS n i).w : Int), ((redS n i).h : Int)) := by
  have hw : (i.w : Int) ≤ 256 := Int.ofNat_le.2 hi.ha
  have hh : (i.h : Int) ≤ 256 := Int.ofNat_le.2 hi.hb
  rw [size_f 6 i.w i.h n (Nat.le_refl _), lvl_nat hn, lim_id (Int.natCast_nonneg _) hw, lim_id (Int.natCast_nonneg _) hh, redS_w, redS_h]
theorem im_len {i : Im} (hi : i.ok) : i.p.length ≤ 65536 := vim_len hi
theorem lev_nat {n : Nat} (hn : n ≤ 4) : Pa.pyramid_isLevel.f (n : Int) = some true := lev_t (Int.natCast_nonneg _) (Int.ofNat_le.2 hn)
theorem steps_facts {i : Im} (hi : i.ok) (n m : Nat) : ∃ k, Pa.raster_Check.f k i.w i.h i.p = some 0 ∧ Pa.raster_Check.f k (redS n i).w (redS n i).h (redS n i).p = some 0 ∧
    red k n i.w i.h i.p = some (((redS n i).w : Int), ((redS n i).h : Int), (redS n i).p) ∧
    red k m (redS n i).w (redS n i).h (redS n i).p = some (((redS m (redS n i)).w : Int), ((redS m (redS n i)).h : Int), (redS m (redS n i)).p) ∧
    red k (n + m) i.w i.h i.p = some (((redS m (redS n i)).w : Int), ((redS m (redS n i)).h : Int), (redS m (redS n i)).p) := by
  obtain ⟨k1, h1⟩ := check_ev i.w i.h i.p
  obtain ⟨k2, h2⟩ := check_ev (redS n i).w (redS n i).h (redS n i).p
  obtain ⟨k3, h3⟩ := red_ev hi n
  obtain ⟨k4, h4⟩ := red_ev (redS_ok hi n) m
  obtain ⟨k5, h5⟩ := red_ev hi (n + m)
  rw [vim_chk hi] at h1
  rw [vim_chk (redS_ok hi n)] at h2
  rw [redS_add n i m] at h5
  exact ⟨k1 + (k2 + (k3 + (k4 + k5))), h1 _ (by omega), h2 _ (by omega), h3 _ (by omega), h4 _ (by omega), h5 _ (by omega)⟩
theorem same_im {i : Im} (hi : i.ok) : ∃ k, Pa.imageeditorlaw35_same.f k i.w i.h i.p i.w i.h i.p = some true :=
  (same_ev i.w i.h (Nat.le_trans (im_len hi) (by decide))).got
end Go.Proofs.YtkchkfmggbejfaaGreatDoor
