/- Sizes, tiles and what a level needs: the reference computes the program's numbers. -/
import Derived.Test.YtkchkfmggbejfaaGreatDoorNe
import Derived.Test.YtkchkfmggbejfaaGreatDoorPbx2
namespace Go.Proofs.YtkchkfmggbejfaaGreatDoor
open Go.RowKit Go.Proofs.YtkchkfmggbejfaaGreatDoorW.PrintWords Go.Proofs.YtkchkfmggbejfaaGreatDoorW.PrintLast Go.Proofs.YtkchkfmggbejfaaGreatDoorW.PrintMore
set_option linter.unusedSimpArgs false

theorem rsize_l0 (d : Nat) : ∀ (k : Nat) (x y N i : Int), 0 ≤ x → x ≤ 256 → 0 ≤ y → y ≤ 256 → 0 ≤ i → N ≤ 4 → i ≤ N → N - i = d → d < k → Pb.imageeditorref35_Size.l0 k x y N i = some (szN d x, szN d y) := by
 induction d with
 | zero =>
  intro k x y N i _ _ _ _ _ _ _ hd hk
  obtain ⟨k, rfl⟩ : ∃ m, k = m + 1 := ⟨k - 1, by omega⟩
  simp only [Pb.imageeditorref35_Size.l0]
  rw [if_neg (by omega)]; rfl
 | succ d ih =>
  intro k x y N i hx0 hx1 hy0 hy1 hi hN hiN hd hk
  obtain ⟨k, rfl⟩ : ∃ m, k = m + 1 := ⟨k - 1, by omega⟩
  simp only [Pb.imageeditorref35_Size.l0]
  rw [if_pos (by omega), (half_step hx0 hx1).1, (half_step hy0 hy1).1]
  have e : wrap64 (i + 1) = i + 1 := by unfold wrap64; omega
  rw [e]
  exact ih k _ _ N (i + 1) (half_step hx0 hx1).2.1 (half_step hx0 hx1).2.2 (half_step hy0 hy1).2.1 (half_step hy0 hy1).2.2 (by omega) hN (by omega) (by omega) (by omega)
theorem rsize_f (k : Nat) (w h lv : Int) (hk : 6 ≤ k) : Pb.imageeditorref35_Size.f k w h lv = some (szN (lvl lv) (lim w), szN (lvl lv) (lim h)) := by
 unfold Pb.imageeditorref35_Size.f Pb.imageeditorref01_Clamp.f
 simp only [Option.bind_some]
 have h4 := lvl_in lv
 rw [h4.2]
 exact rsize_l0 (lvl lv) k (lim w) (lim h) _ 0 (lim_in w).1 (lim_in w).2 (lim_in h).1 (lim_in h).2 (by omega) (by omega) (by omega) (by omega) (by omega)
theorem tiles_eq (w h lv : Int) : ∃ a b, Pa.pyramid_Tiles.f 6 w h lv = some (a, b) ∧ Pb.imageeditorref35_Tiles.f 6 w h lv = some (a, b) := by
 refine ⟨wrap64 (Int.tdiv (wrap64 ((wrap64 (szN (lvl lv) (lim w) + 16)) - 1)) 16), wrap64 (Int.tdiv (wrap64 ((wrap64 (szN (lvl lv) (lim h) + 16)) - 1)) 16), ?_, ?_⟩
 ·unfold Pa.pyramid_Tiles.f
  rw [size_f 6 w h lv (Nat.le_refl _)]
  rfl
 ·unfold Pb.imageeditorref35_Tiles.f
  rw [rsize_f 6 w h lv (Nat.le_refl _)]
  rfl
theorem rvalid_f (x y a b : Int) : Pb.imageeditorref02_Valid.f x y a b = some (vR x y a b) := by
 unfold Pb.imageeditorref02_Valid.f
 cases hv : vR x y a b with
 | true =>
  have h := vR_iff.1 hv
  have e1 : wrap64 (1048576 - x) = 1048576 - x := by unfold wrap64; omega
  have e2 : wrap64 (1048576 - y) = 1048576 - y := by unfold wrap64; omega
  rw [e1, e2, if_neg (by omega), if_neg (by omega), if_neg (by omega), if_neg (by omega), if_pos (by omega), if_pos (by omega), if_pos (by omega)]
  congr 1; apply decide_eq_true; omega
 | false =>
  have h : ¬ ((-1048576 ≤ x ∧ x ≤ 1048576 ∧ 0 ≤ a ∧ a ≤ 1048576 - x) ∧ (-1048576 ≤ y ∧ y ≤ 1048576 ∧ 0 ≤ b ∧ b ≤ 1048576 - y)) := fun h => by rw [vR_iff.2 h] at hv; cases hv
  by_cases h1 : x < -1048576
  ·rw [if_pos h1]
  rw [if_neg h1]
  by_cases h2 : x > 1048576
  ·rw [if_pos h2]
  rw [if_neg h2]
  by_cases h3 : y < -1048576
  ·rw [if_pos h3]
  rw [if_neg h3]
  by_cases h4 : y > 1048576
  ·rw [if_pos h4]
  rw [if_neg h4]
  have e1 : wrap64 (1048576 - x) = 1048576 - x := by unfold wrap64; omega
  have e2 : wrap64 (1048576 - y) = 1048576 - y := by unfold wrap64; omega
  rw [e1, e2]
  by_cases h5 : a ≥ 0
  ·rw [if_pos h5]
   by_cases h6 : b ≥ 0
   ·rw [if_pos h6]
    by_cases h7 : a ≤ 1048576 - x
    ·rw [if_pos h7]; congr 1; apply decide_eq_false; omega
    ·rw [if_neg h7]
   ·rw [if_neg h6]
  ·rw [if_neg h5]
theorem rempty_f {x y a b : Int} (h : vR x y a b = true) : Pb.imageeditorref02_Empty.f x y a b = some (emptyB a b) := by
 unfold Pb.imageeditorref02_Empty.f emptyB
 rw [rvalid_f, h]
 simp only [Option.bind_some, if_true]
 by_cases h1 : a = 0
 ·rw [if_pos h1]; simp [h1]
 ·rw [if_neg h1]
  by_cases h2 : b = 0 <;> simp [h1, h2]
theorem rspan_f {k : Nat} {x y a b : Int} (ax : Int) (h : vR x y a b = true) (hn : emptyB a b = false) (hax : ax = 0 ∨ ax = 1) : Pb.imageeditorref02_span.f (k + 1) x y a b ax = some (if ax = 0 then (x, x + a - 1) else (y, y + b - 1)) := by
 have hv := vR_iff.1 h
 have h5 : ¬ (a = 0 ∨ b = 0) := by simpa [emptyB] using hn
 unfold Pb.imageeditorref02_span.f
 rw [rvalid_f, h]
 simp only [Option.bind_some, if_true]
 rw [if_neg (by omega)]
 have hb : (b == 0) = false := by simp; omega
 rw [hb]
 simp only [Pb.imageeditorref02_span.j0, Bool.false_eq_true, if_false]
 have e1 : wrap64 (wrap64 (x + a) - 1) = x + a - 1 := by unfold wrap64; omega
 have e2 : wrap64 (wrap64 (y + b) - 1) = y + b - 1 := by unfold wrap64; omega
 rw [e1, e2]
 rcases hax with rfl | rfl <;> simp
theorem rhas_f {k : Nat} {x y a b : Int} (u v : Int) (h : vR x y a b = true) (hn : emptyB a b = false) : Pb.imageeditorref02_Has.f (k + 1) x y a b u v = some (decide (x ≤ u ∧ u ≤ x + a - 1 ∧ y ≤ v ∧ v ≤ y + b - 1)) := by
 unfold Pb.imageeditorref02_Has.f
 rw [rspan_f 0 h hn (.inl rfl), rspan_f 1 h hn (.inr rfl)]
 simp only [Option.bind_some, if_true, Int.one_ne_zero, if_false]
 by_cases h1 : u ≥ x
 ·rw [if_pos h1]
  by_cases h2 : u ≤ x + a - 1
  ·rw [if_pos h2]
   by_cases h3 : v ≥ y
   ·rw [if_pos h3]; congr 1; apply decide_eq_decide.2; omega
   ·rw [if_neg h3]; congr 1; symm; apply decide_eq_false; omega
  ·rw [if_neg h2]; congr 1; symm; apply decide_eq_false; omega
 ·rw [if_neg h1]; congr 1; symm; apply decide_eq_false; omega
theorem szN_pos : ∀ (d : Nat) {x : Int}, 1 ≤ x → 1 ≤ szN d x
 | 0, _, h => h
 | d + 1, x, h => szN_pos d (x := (x + 1) / 2) (by omega)
theorem rwithin_f {k : Nat} {x y a b W H : Int} (h : vR x y a b = true) (hn : emptyB a b = false) (hW0 : 1 ≤ W) (hW1 : W ≤ 256) (hH0 : 1 ≤ H) (hH1 : H ≤ 256) :
  Pb.imageeditorref02_Within.f (k + 1) x y a b 0 0 W H = some (decide (0 ≤ x ∧ 0 ≤ y ∧ x + a ≤ W ∧ y + b ≤ H)) := by
 have hv := vR_iff.1 h
 have h5 : ¬ (a = 0 ∨ b = 0) := by simpa [emptyB] using hn
 have h2 : vR 0 0 W H = true := vR_iff.2 ⟨by omega, by omega⟩
 have h3 : emptyB W H = false := by simp [emptyB]; omega
 unfold Pb.imageeditorref02_Within.f
 rw [rempty_f h, hn]
 simp only [Option.bind_some, Bool.false_eq_true, if_false]
 rw [rspan_f 0 h hn (.inl rfl), rspan_f 1 h hn (.inr rfl)]
 simp only [Option.bind_some, if_true, Int.one_ne_zero, if_false]
 rw [rhas_f _ _ h2 h3]
 simp only [Option.bind_some]
 by_cases h4 : 0 ≤ x ∧ x ≤ 0 + W - 1 ∧ 0 ≤ y ∧ y ≤ 0 + H - 1
 ·rw [decide_eq_true h4, if_pos rfl, rhas_f _ _ h2 h3]
  simp only [Option.bind_some]
  congr 1; apply decide_eq_decide.2; omega
 ·rw [decide_eq_false h4]
  simp only [Bool.false_eq_true, if_false]
  congr 1; symm; apply decide_eq_false; omega
theorem rmeet_f {k : Nat} {x y a b W H : Int} (hx : 0 ≤ x) (hy : 0 ≤ y) (ha : 0 < a) (hb : 0 < b) (hxw : x < W) (hyh : y < H) (hW : W ≤ 256) (hH : H ≤ 256) (hxa : x + a ≤ 300000) (hyb : y + b ≤ 300000) :
  Pb.imageeditorref02_Meet.f (k + 2) x y a b 0 0 W H = some (x, y, mn (x + a) W - x, mn (y + b) H - y) := by
 have h1 : vR x y a b = true := vR_iff.2 ⟨by omega, by omega⟩
 have h2 : vR 0 0 W H = true := vR_iff.2 ⟨by omega, by omega⟩
 have n1 : emptyB a b = false := by simp [emptyB]; omega
 have n2 : emptyB W H = false := by simp [emptyB]; omega
 unfold Pb.imageeditorref02_Meet.f
 rw [rempty_f h1, rempty_f h2, n1, n2]
 simp only [Option.bind_some, Bool.false_eq_true, if_false, Pb.imageeditorref02_Meet.j0]
 rw [rspan_f 0 h1 n1 (.inl rfl), rspan_f 1 h1 n1 (.inr rfl), rspan_f 0 h2 n2 (.inl rfl), rspan_f 1 h2 n2 (.inr rfl)]
 simp only [Option.bind_some, if_true, Int.one_ne_zero, if_false]
 unfold Pb.imageeditorref02_of.f
 have m1 : mx x 0 = x := by unfold mx; split <;> omega
 have m2 : mx y 0 = y := by unfold mx; split <;> omega
 have k1 : mn (x + a - 1) (0 + W - 1) = mn (x + a) W - 1 := by unfold mn; split <;> split <;> omega
 have k2 : mn (y + b - 1) (0 + H - 1) = mn (y + b) H - 1 := by unfold mn; split <;> split <;> omega
 have b1 : x < mn (x + a) W ∧ mn (x + a) W ≤ 256 := by unfold mn; split <;> omega
 have b2 : y < mn (y + b) H ∧ mn (y + b) H ≤ 256 := by unfold mn; split <;> omega
 rw [m1, m2, k1, k2, if_neg (by omega), if_neg (by omega)]
 simp only [Option.bind_some]
 have e5 : wrap64 (wrap64 (mn (x + a) W - 1 - x) + 1) = mn (x + a) W - x := by unfold wrap64; omega
 have e6 : wrap64 (wrap64 (mn (y + b) H - 1 - y) + 1) = mn (y + b) H - y := by unfold wrap64; omega
 rw [e5, e6]
theorem rloop {k : Nat} {w h lv x y a b : Int} (d : Nat) : ∀ (m : Nat) (n i : Int), 0 ≤ i → lv ≤ 4 → i + d = lv → n = 2 ^ i.toNat → m = d + 3 + k →
  Pb.imageeditorref35_Needs.l0 m w h lv n i x y a b = (Pb.imageeditorref02_Meet.f (k + 2) (wrap64 (2 ^ lv.toNat * x)) (wrap64 (2 ^ lv.toNat * y)) (wrap64 (2 ^ lv.toNat * a)) (wrap64 (2 ^ lv.toNat * b)) 0 0 w h).bind fun t => some (t.1, t.2.1, t.2.2.1, t.2.2.2) := by
 induction d with
 | zero =>
  intro m n i hi h4 hd hn hm
  obtain rfl : m = (k + 2) + 1 := by omega
  simp only [Pb.imageeditorref35_Needs.l0]
  have e : i = lv := by omega
  rw [if_neg (by omega), hn, e]
 | succ d ih =>
  intro m n i hi h4 hd hn hm
  obtain ⟨m, rfl⟩ : ∃ q, m = q + 1 := ⟨m - 1, by omega⟩
  simp only [Pb.imageeditorref35_Needs.l0]
  have e : wrap64 (i + 1) = i + 1 := by unfold wrap64; omega
  have hp : (2 : Int) ^ (i + 1).toNat = 2 * 2 ^ i.toNat := by
   have : (i + 1).toNat = i.toNat + 1 := by omega
   rw [this, Int.pow_succ]; omega
  have hb : n ≤ 16 ∧ 1 ≤ n := by
   rw [hn]
   have : i.toNat ≤ 4 := by omega
   match i.toNat, this with
   | 0, _ => decide
   | 1, _ => decide
   | 2, _ => decide
   | 3, _ => decide
   | 4, _ => decide
  have e2 : wrap64 (2 * n) = 2 * n := by unfold wrap64; omega
  rw [if_pos (by omega), e, e2]
  exact ih m (2 * n) (i + 1) (by omega) h4 (by omega) (by rw [hp, hn]) (by omega)
theorem rj_true (k : Nat) (w h lv x y a b : Int) : Pb.imageeditorref35_Needs.j0 (k + 1) w h lv true x y a b = some (0, 0, 0, 0) := by
 simp only [Pb.imageeditorref35_Needs.j0, if_true]
theorem rneeds_f (w h lv x y a b : Int) : Pb.imageeditorref35_Needs.f 20 w h lv x y a b = some (needs w h lv x y a b) := by
 have z := rj_true 19 w h lv x y a b
 cases e1 : sideB w with
 | false =>
  have hz : needs w h lv x y a b = (0, 0, 0, 0) := by unfold needs; rw [if_neg (by simp [e1])]
  have h1 : ¬ (1 ≤ w ∧ w ≤ 256) := by simpa [sideB] using e1
  rw [hz]; unfold Pb.imageeditorref35_Needs.f
  by_cases g1 : w < 1
  ·rw [if_pos g1, z]
  ·rw [if_neg g1, if_pos (by omega), z]
 | true =>
 have s1 := sideB_in e1
 cases e2 : sideB h with
 | false =>
  have hz : needs w h lv x y a b = (0, 0, 0, 0) := by unfold needs; rw [if_neg (by simp [e2])]
  have h1 : ¬ (1 ≤ h ∧ h ≤ 256) := by simpa [sideB] using e2
  rw [hz]; unfold Pb.imageeditorref35_Needs.f
  rw [if_neg (by omega), if_neg (by omega)]
  by_cases g1 : h < 1
  ·rw [if_pos g1, z]
  ·rw [if_neg g1, if_pos (by omega), z]
 | true =>
 have s2 := sideB_in e2
 cases e3 : levelB lv with
 | false =>
  have hz : needs w h lv x y a b = (0, 0, 0, 0) := by unfold needs; rw [if_neg (by simp [e3])]
  have h1 : ¬ (0 ≤ lv ∧ lv ≤ 4) := by simpa [levelB] using e3
  rw [hz]; unfold Pb.imageeditorref35_Needs.f
  rw [if_neg (by omega), if_neg (by omega), if_neg (by omega), if_neg (by omega)]
  by_cases g1 : lv < 0
  ·rw [if_pos g1, z]
  ·rw [if_neg g1, if_pos (by omega), z]
 | true =>
 have s3 := levelB_in e3
 unfold Pb.imageeditorref35_Needs.f
 rw [if_neg (by omega), if_neg (by omega), if_neg (by omega), if_neg (by omega), if_neg (by omega), if_neg (by omega), rvalid_f]
 simp only [Option.bind_some]
 cases e4 : vR x y a b with
 | false =>
  have hz : needs w h lv x y a b = (0, 0, 0, 0) := by unfold needs; rw [if_neg (by simp [e4])]
  rw [hz, if_neg (by simp), z]
 | true =>
 rw [if_pos rfl, rempty_f e4]
 simp only [Option.bind_some]
 cases e5 : emptyB a b with
 | true =>
  have hz : needs w h lv x y a b = (0, 0, 0, 0) := by unfold needs; rw [if_neg (by simp [e5])]
  rw [hz, z]
 | false =>
 have hw := szN_in lv.toNat (x := w) (by omega) s1.2
 have hh := szN_in lv.toNat (x := h) (by omega) s2.2
 have hw1 := szN_pos lv.toNat (x := w) s1.1
 have hh1 := szN_pos lv.toNat (x := h) s2.1
 have hsz : Pb.imageeditorref35_Size.f 19 w h lv = some (szN lv.toNat w, szN lv.toNat h) := by
  rw [rsize_f 19 w h lv (by omega), lim_id (by omega) s1.2, lim_id (by omega) s2.2, lvl_id s3.1 s3.2]
 simp only [Pb.imageeditorref35_Needs.j0, Bool.false_eq_true, if_false, hsz, Option.bind_some]
 rw [rwithin_f (k := 18) e4 e5 hw1 hw.2 hh1 hh.2]
 simp only [Option.bind_some]
 cases e6 : decide (fits w h lv x y a b) with
 | false =>
  have hz : needs w h lv x y a b = (0, 0, 0, 0) := by unfold needs; rw [if_neg (by simp only [e6]; simp)]
  have e6' : decide (0 ≤ x ∧ 0 ≤ y ∧ x + a ≤ szN lv.toNat w ∧ y + b ≤ szN lv.toNat h) = false := e6
  rw [hz, e6', if_neg (by simp)]
 | true =>
  have e6' : decide (0 ≤ x ∧ 0 ≤ y ∧ x + a ≤ szN lv.toNat w ∧ y + b ≤ szN lv.toNat h) = true := e6
  rw [e6', if_pos rfl]
  have hr := rloop (k := 16 - lv.toNat) (w := w) (h := h) (lv := lv) (x := x) (y := y) (a := a) (b := b) lv.toNat 19 1 0 (by omega) s3.2 (by omega) (by rfl) (by omega)
  rw [hr]
  have hm := meet_at w h lv x y a b e1 e2 e3 e4 e5 e6
  obtain ⟨_, m1, m2, m3, m4, m5, m6, m7, m8⟩ := hm
  unfold pow2 at m1 m2 m3 m4 m5 m6 m7 m8
  have g1 : wrap64 (2 ^ lv.toNat * x) = 2 ^ lv.toNat * x := by unfold wrap64; omega
  have g2 : wrap64 (2 ^ lv.toNat * y) = 2 ^ lv.toNat * y := by unfold wrap64; omega
  have g3 : wrap64 (2 ^ lv.toNat * a) = 2 ^ lv.toNat * a := by unfold wrap64; omega
  have g4 : wrap64 (2 ^ lv.toNat * b) = 2 ^ lv.toNat * b := by unfold wrap64; omega
  rw [g1, g2, g3, g4]
  have h6 : fits w h lv x y a b := by simpa using e6
  obtain ⟨f0, f1, f2, f3⟩ := h6
  have hv := vR_iff.1 e4
  have h5 : ¬ (a = 0 ∨ b = 0) := by simpa [emptyB] using e5
  have b1 : 2 ^ lv.toNat * x < w := sz_back lv.toNat w x (by omega) (by omega)
  have b2 : 2 ^ lv.toNat * y < h := sz_back lv.toNat h y (by omega) (by omega)
  have hp : (0 : Int) < 2 ^ lv.toNat := Int.pow_pos (by decide)
  have ba : 0 < 2 ^ lv.toNat * a := Int.mul_pos hp (by omega)
  have bb : 0 < 2 ^ lv.toNat * b := Int.mul_pos hp (by omega)
  have hfa : 2 ^ lv.toNat * x + 2 ^ lv.toNat * a ≤ 300000 := by omega
  rw [rmeet_f m2 m4 ba bb b1 b2 s1.2 s2.2 (by omega) (by omega)]
  simp only [Option.bind_some]
  unfold needs
  rw [if_pos (by simp only [e1, e2, e3, e4, e5, e6]; rfl)]
  rfl
end Go.Proofs.YtkchkfmggbejfaaGreatDoor
