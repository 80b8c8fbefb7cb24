/- The program's Needs. -/
import Derived.Test.YtkchkfmggbejfaaGreatDoorRe
import Derived.Test.YtkchkfmggbejfaaGreatDoorNz
namespace Go.Proofs.YtkchkfmggbejfaaGreatDoor
open Go.RowKit Go.Proofs.YtkchkfmggbejfaaGreatDoorW.PrintWords Go.Proofs.YtkchkfmggbejfaaGreatDoorW.PrintMore
set_option linter.unusedSimpArgs false
set_option maxRecDepth 20000

def pow2 (lv : Int) : Int := 2 ^ lv.toNat
def fits (w h lv x y a b : Int) : Prop := 0 ≤ x ∧ 0 ≤ y ∧ x + a ≤ szN lv.toNat w ∧ y + b ≤ szN lv.toNat h
instance (w h lv x y a b : Int) : Decidable (fits w h lv x y a b) := by unfold fits; infer_instance
def sideB (n : Int) : Bool := decide (1 ≤ n ∧ n ≤ 256)
def levelB (n : Int) : Bool := decide (0 ≤ n ∧ n ≤ 4)
def emptyB (a b : Int) : Bool := decide (a = 0 ∨ b = 0)
def needs (w h lv x y a b : Int) : Int × Int × Int × Int :=
 if sideB w && sideB h && levelB lv && vR x y a b && !emptyB a b && decide (fits w h lv x y a b) then
  (pow2 lv * x, pow2 lv * y, mn (pow2 lv * x + pow2 lv * a) w - pow2 lv * x, mn (pow2 lv * y + pow2 lv * b) h - pow2 lv * y)
 else (0, 0, 0, 0)
def rv (t : Int × Int × Int × Int) : Value := .agg #[.int .i64 t.1, .int .i64 t.2.1, .int .i64 t.2.2.1, .int .i64 t.2.2.2]

theorem blk4f {w : World} {b : Nat} {a0 a1 a2 a3 : Value} {t : TypeId} (h : w.heap[b]? = some (.cells #[a0, a1, a2, a3] t (0, 0))) :
  w.cell? ⟨b, 0, none⟩ = some a0 ∧ w.cell? ⟨b, 1, none⟩ = some a1 ∧ w.cell? ⟨b, 2, none⟩ = some a2 ∧ w.cell? ⟨b, 3, none⟩ = some a3 ∧ w.frozen? ⟨b, 0, none⟩ = false ∧ w.frozen? ⟨b, 1, none⟩ = false ∧ w.frozen? ⟨b, 2, none⟩ = false ∧ w.frozen? ⟨b, 3, none⟩ = false :=
 ⟨by simp [World.cell?, h], by simp [World.cell?, h], by simp [World.cell?, h], by simp [World.cell?, h], by simp [World.frozen?, h], by simp [World.frozen?, h], by simp [World.frozen?, h], by simp [World.frozen?, h]⟩

theorem side_is (n : Int) (b : Bool) (w : World) (h : sideB n = b) : Calls Tryz.prog 26 #[.int .i64 n] w fun e w' => e = .returned (.bool b) ∧ w = w' := by
 subst h
 unfold sideB
 by_cases h1 : n ≥ 1
 ·by_cases h2 : n ≤ 256
  ·have d1 : decide (n ≥ 1) = true := decide_eq_true h1
   have d2 : decide (n ≤ 256) = true := decide_eq_true h2
   go_enter Tryz.func26, Tryz.ntmps26
   go_wp2
   go_ret
   exact ⟨by first | (simp; done) | (simp; omega), rfl⟩
  ·have d1 : decide (n ≥ 1) = true := decide_eq_true h1
   have d2 : decide (n ≤ 256) = false := decide_eq_false h2
   go_enter Tryz.func26, Tryz.ntmps26
   go_wp2
   go_ret
   exact ⟨by first | (simp; done) | (simp; omega), rfl⟩
 ·have d1 : decide (n ≥ 1) = false := decide_eq_false h1
  go_enter Tryz.func26, Tryz.ntmps26
  go_wp2
  go_ret
  exact ⟨by first | (simp; done) | (simp; omega), rfl⟩
theorem level_f (n : Int) : Pa.pyramid_isLevel.f n = some (levelB n) := by
 unfold Pa.pyramid_isLevel.f levelB
 by_cases h : n ≥ 0
 ·rw [if_pos h]; congr 1; apply decide_eq_decide.2; omega
 ·rw [if_neg h]; congr 1; symm; apply decide_eq_false; omega

theorem sideB_in {n : Int} (h : sideB n = true) : 1 ≤ n ∧ n ≤ 256 := by simpa [sideB] using h
theorem levelB_in {n : Int} (h : levelB n = true) : 0 ≤ n ∧ n ≤ 4 := by simpa [levelB] using h
theorem lvl_id {n : Int} (h0 : 0 ≤ n) (h1 : n ≤ 4) : lvl n = n.toNat := by unfold lvl mn mx; split <;> split <;> omega
theorem size_at (w h lv : Int) (e1 : sideB w = true) (e2 : sideB h = true) (e3 : levelB lv = true) : Pa.pyramid_Size.f 6 w h lv = some (szN lv.toNat w, szN lv.toNat h) := by
 have h1 := sideB_in e1
 have h2 := sideB_in e2
 have h3 := levelB_in e3
 rw [size_f 6 w h lv (Nat.le_refl _), lim_id (by omega) h1.2, lim_id (by omega) h2.2, lvl_id h3.1 h3.2]
theorem within_at (w h lv x y a b : Int) (r : Bool) (e1 : sideB w = true) (e2 : sideB h = true) (_e3 : levelB lv = true) (e4 : vR x y a b = true) (e5 : emptyB a b = false) (e6 : decide (fits w h lv x y a b) = r) :
  Pa.rect_Within.f x y a b 0 0 (szN lv.toNat w) (szN lv.toNat h) = some r := by
 have h1 := sideB_in e1
 have h2 := sideB_in e2
 have hw := szN_in lv.toNat (x := w) (by omega) h1.2
 have hh := szN_in lv.toNat (x := h) (by omega) h2.2
 rw [within_f e4 (by simpa [emptyB] using e5) hw.1 hw.2 hh.1 hh.2, ← e6]
 rfl
theorem meet_at (w h lv x y a b : Int) (e1 : sideB w = true) (e2 : sideB h = true) (e3 : levelB lv = true) (e4 : vR x y a b = true) (e5 : emptyB a b = false) (e6 : decide (fits w h lv x y a b) = true) :
  Pa.rect_Meet.f (pow2 lv * x) (pow2 lv * y) (pow2 lv * a) (pow2 lv * b) 0 0 w h = some (needs w h lv x y a b) ∧ pow2 lv * x ≤ 100000 ∧ 0 ≤ pow2 lv * x ∧ pow2 lv * y ≤ 100000 ∧ 0 ≤ pow2 lv * y ∧ pow2 lv * a ≤ 100000 ∧ 0 ≤ pow2 lv * a ∧ pow2 lv * b ≤ 100000 ∧ 0 ≤ pow2 lv * b := by
 have h1 := sideB_in e1
 have h2 := sideB_in e2
 have h3 := levelB_in e3
 have h4 := vR_iff.1 e4
 have h5 : ¬ (a = 0 ∨ b = 0) := by simpa [emptyB] using e5
 have h6 : fits w h lv x y a b := by simpa using e6
 obtain ⟨f0, f1, f2, f3⟩ := h6
 have hw := szN_in lv.toNat (x := w) (by omega) h1.2
 have hh := szN_in lv.toNat (x := h) (by omega) h2.2
 have b1 : pow2 lv * x < w := sz_back lv.toNat w x (by omega) (by omega)
 have b2 : pow2 lv * y < h := sz_back lv.toNat h y (by omega) (by omega)
 have hp : 1 ≤ pow2 lv ∧ pow2 lv ≤ 16 := by
  obtain ⟨n, rfl⟩ : ∃ n : Nat, lv = n := ⟨lv.toNat, by omega⟩
  have hn : n ≤ 4 := by omega
  unfold pow2
  rw [Int.toNat_natCast]
  match n, hn with
  | 0, _ => decide
  | 1, _ => decide
  | 2, _ => decide
  | 3, _ => decide
  | 4, _ => decide
 have bx : 0 ≤ pow2 lv * x := Int.mul_nonneg (by omega) f0
 have by' : 0 ≤ pow2 lv * y := Int.mul_nonneg (by omega) f1
 have ba : 0 < pow2 lv * a := Int.mul_pos (by omega) (by omega)
 have bb : 0 < pow2 lv * b := Int.mul_pos (by omega) (by omega)
 have ca : pow2 lv * a ≤ 16 * 256 := Int.mul_le_mul hp.2 (by omega) (by omega) (by omega)
 have cb : pow2 lv * b ≤ 16 * 256 := Int.mul_le_mul hp.2 (by omega) (by omega) (by omega)
 refine ⟨?_, by omega, bx, by omega, by', by omega, by omega, by omega, by omega⟩
 rw [meet_f bx by' ba bb b1 b2 h1.2 h2.2 (by omega) (by omega)]
 unfold needs
 rw [if_pos (by simp only [e1, e2, e3, e4, e5, e6]; rfl)]

theorem shl_lv (lv : Int) (e3 : levelB lv = true) (W : World) : (Op.shift .shl .i64 1 .i64 lv).run Tryz.prog W = .ok (.int .i64 (pow2 lv)) W := by
 have h3 := levelB_in e3
 obtain ⟨n, rfl⟩ : ∃ n : Nat, lv = n := ⟨lv.toNat, by omega⟩
 have hn : n ≤ 4 := by omega
 match n, hn with
 | 0, _ => rfl
 | 1, _ => rfl
 | 2, _ => rfl
 | 3, _ => rfl
 | 4, _ => rfl

set_option maxHeartbeats 4000000 in
theorem needs_any (w h lv x y a b : Int) (w0 : World) : Calls Tryz.prog 12 #[.int .i64 w, .int .i64 h, .int .i64 lv, .agg #[.int .i64 x, .int .i64 y, .int .i64 a, .int .i64 b]] w0 fun e w' => e = .returned (rv (needs w h lv x y a b)) ∧ Below w0.heap.size w0 w' := by
 obtain ⟨W, hW⟩ : ∃ W, W = (w0.alloc (.cells #[.int .i64 x, .int .i64 y, .int .i64 a, .int .i64 b] 23)).alloc (.cells #[.int .i64 0, .int .i64 0, .int .i64 0, .int .i64 0] 23) := ⟨_, rfl⟩
 have hbW : Below w0.heap.size w0 W := by rw [hW]; exact (bel_alloc _ _).alloc (by simp) _
 have h2 : W.heap[w0.heap.size]? = some (.cells #[.int .i64 x, .int .i64 y, .int .i64 a, .int .i64 b] 23 (0, 0)) := by rw [hW]; exact blk_in (bel_alloc _ _) (blk_new w0 _)
 have h4 : W.heap[w0.heap.size + 1]? = some (.cells #[.int .i64 0, .int .i64 0, .int .i64 0, .int .i64 0] 23 (0, 0)) := by rw [hW]; exact blk_at _ _ _ (by simp)
 have HW := Lib.hid hW
 have HbW := Lib.hid hbW
 have H2 := Lib.hid h2
 have H4 := Lib.hid h4
 have hl4 : w0.heap.size + 1 < W.heap.size := (Array.getElem?_eq_some_iff.1 h4).1
 obtain ⟨c0, c1, c2, c3⟩ := blk4 h2
 obtain ⟨z0, z1, z2, z3, y0, y1, y2, y3⟩ := blk4f h4
 clear hW hbW h2 h4
 go_enter Tryz.func12, Tryz.ntmps12
 cases e1 : sideB w with
 | false =>
  have HbWW := HbW
  have H2W := H2
  have H4W := H4
  go_wp2_with fail
  rw [← HW.out]
  have K := side_is w false W e1
  with_reducible refine K.mono ?_
  clear K
  rintro en wx0 ⟨rfl, rfl⟩
  go_wp2
  have hz : needs w h lv x y a b = (0, 0, 0, 0) := by unfold needs; rw [if_neg (by simp [e1])]
  rw [hz]
  refine bodyPost_ret (v := .agg #[.int .i64 0, .int .i64 0, .int .i64 0, .int .i64 0]) (by simp [results, Tryz.results12, go_sem, *]) rfl ⟨rfl, ?_⟩
  have hb := HbW.out
  refine Below.setCell (Below.setCell (Below.setCell (Below.setCell hb ?_ _) ?_ _) ?_ _) ?_ _ <;> (simp; try omega)
 | true =>
  cases e2 : sideB h with
  | false =>
   have HbWW := HbW
   have H2W := H2
   have H4W := H4
   go_wp2_with fail
   rw [← HW.out]
   have K := side_is w true W e1
   with_reducible refine K.mono ?_
   clear K
   rintro en wx0 ⟨rfl, rfl⟩
   go_wp2_with fail

   have K := side_is h false W e2
   with_reducible refine K.mono ?_
   clear K
   rintro en wx1 ⟨rfl, rfl⟩
   go_wp2
   have hz : needs w h lv x y a b = (0, 0, 0, 0) := by unfold needs; rw [if_neg (by simp [e1, e2])]
   rw [hz]
   refine bodyPost_ret (v := .agg #[.int .i64 0, .int .i64 0, .int .i64 0, .int .i64 0]) (by simp [results, Tryz.results12, go_sem, *]) rfl ⟨rfl, ?_⟩
   have hb := HbW.out
   refine Below.setCell (Below.setCell (Below.setCell (Below.setCell hb ?_ _) ?_ _) ?_ _) ?_ _ <;> (simp; try omega)
  | true =>
   cases e3 : levelB lv with
   | false =>
    have HbWW := HbW
    have H2W := H2
    have H4W := H4
    go_wp2_with fail
    rw [← HW.out]
    have K := side_is w true W e1
    with_reducible refine K.mono ?_
    clear K
    rintro en wx0 ⟨rfl, rfl⟩
    go_wp2_with fail

    have K := side_is h true W e2
    with_reducible refine K.mono ?_
    clear K
    rintro en wx1 ⟨rfl, rfl⟩
    go_wp2_with fail
    have K := Pa.pyramid_isLevel.calls lv false W ((level_f lv).trans (congrArg some e3))
    with_reducible refine K.mono ?_
    clear K
    rintro en w2 ⟨rfl, hd⟩
    have hb := hd.below
    have H22 := Lib.hid (blk_in hb H2W.out)
    have H42 := Lib.hid (blk_in hb H4W.out)
    have Hb2 := Lib.hid (HbW.out.trans (hb.mono HbW.out.size))
    have hl2 : w0.heap.size + 1 < w2.heap.size := (Array.getElem?_eq_some_iff.1 H42.out).1
    clear hb hd c0 c1 c2 c3 z0 z1 z2 z3 y0 y1 y2 y3
    obtain ⟨c0, c1, c2, c3⟩ := blk4 H22.out
    obtain ⟨z0, z1, z2, z3, y0, y1, y2, y3⟩ := blk4f H42.out
    go_wp2
    have hz : needs w h lv x y a b = (0, 0, 0, 0) := by unfold needs; rw [if_neg (by simp [e1, e2, e3])]
    rw [hz]
    refine bodyPost_ret (v := .agg #[.int .i64 0, .int .i64 0, .int .i64 0, .int .i64 0]) (by simp [results, Tryz.results12, go_sem, *]) rfl ⟨rfl, ?_⟩
    have hb := Hb2.out
    refine Below.setCell (Below.setCell (Below.setCell (Below.setCell hb ?_ _) ?_ _) ?_ _) ?_ _ <;> (simp; try omega)
   | true =>
    cases e4 : vR x y a b with
    | false =>
     have HbWW := HbW
     have H2W := H2
     have H4W := H4
     go_wp2_with fail
     rw [← HW.out]
     have K := side_is w true W e1
     with_reducible refine K.mono ?_
     clear K
     rintro en wx0 ⟨rfl, rfl⟩
     go_wp2_with fail

     have K := side_is h true W e2
     with_reducible refine K.mono ?_
     clear K
     rintro en wx1 ⟨rfl, rfl⟩
     go_wp2_with fail
     have K := Pa.pyramid_isLevel.calls lv true W ((level_f lv).trans (congrArg some e3))
     with_reducible refine K.mono ?_
     clear K
     rintro en w2 ⟨rfl, hd⟩
     have hb := hd.below
     have H22 := Lib.hid (blk_in hb H2W.out)
     have H42 := Lib.hid (blk_in hb H4W.out)
     have Hb2 := Lib.hid (HbW.out.trans (hb.mono HbW.out.size))
     have hl2 : w0.heap.size + 1 < w2.heap.size := (Array.getElem?_eq_some_iff.1 H42.out).1
     clear hb hd c0 c1 c2 c3 z0 z1 z2 z3 y0 y1 y2 y3
     obtain ⟨c0, c1, c2, c3⟩ := blk4 H22.out
     obtain ⟨z0, z1, z2, z3, y0, y1, y2, y3⟩ := blk4f H42.out
     go_wp2_with fail
     have K := Pa.rect_Valid.calls x y a b false w2 ((valid_f x y a b).trans (congrArg some e4))
     with_reducible refine K.mono ?_
     clear K
     rintro en w3 ⟨rfl, hd⟩
     have hb := hd
     have H23 := Lib.hid (blk_in hb H22.out)
     have H43 := Lib.hid (blk_in hb H42.out)
     have Hb3 := Lib.hid (Hb2.out.trans (hb.mono Hb2.out.size))
     have hl3 : w0.heap.size + 1 < w3.heap.size := (Array.getElem?_eq_some_iff.1 H43.out).1
     clear hb hd c0 c1 c2 c3 z0 z1 z2 z3 y0 y1 y2 y3
     obtain ⟨c0, c1, c2, c3⟩ := blk4 H23.out
     obtain ⟨z0, z1, z2, z3, y0, y1, y2, y3⟩ := blk4f H43.out
     go_wp2
     have hz : needs w h lv x y a b = (0, 0, 0, 0) := by unfold needs; rw [if_neg (by simp [e1, e2, e3, e4])]
     rw [hz]
     refine bodyPost_ret (v := .agg #[.int .i64 0, .int .i64 0, .int .i64 0, .int .i64 0]) (by simp [results, Tryz.results12, go_sem, *]) rfl ⟨rfl, ?_⟩
     have hb := Hb3.out
     refine Below.setCell (Below.setCell (Below.setCell (Below.setCell hb ?_ _) ?_ _) ?_ _) ?_ _ <;> (simp; try omega)
    | true =>
     cases e5 : emptyB a b with
     | true =>
      have HbWW := HbW
      have H2W := H2
      have H4W := H4
      go_wp2_with fail
      rw [← HW.out]
      have K := side_is w true W e1
      with_reducible refine K.mono ?_
      clear K
      rintro en wx0 ⟨rfl, rfl⟩
      go_wp2_with fail

      have K := side_is h true W e2
      with_reducible refine K.mono ?_
      clear K
      rintro en wx1 ⟨rfl, rfl⟩
      go_wp2_with fail
      have K := Pa.pyramid_isLevel.calls lv true W ((level_f lv).trans (congrArg some e3))
      with_reducible refine K.mono ?_
      clear K
      rintro en w2 ⟨rfl, hd⟩
      have hb := hd.below
      have H22 := Lib.hid (blk_in hb H2W.out)
      have H42 := Lib.hid (blk_in hb H4W.out)
      have Hb2 := Lib.hid (HbW.out.trans (hb.mono HbW.out.size))
      have hl2 : w0.heap.size + 1 < w2.heap.size := (Array.getElem?_eq_some_iff.1 H42.out).1
      clear hb hd c0 c1 c2 c3 z0 z1 z2 z3 y0 y1 y2 y3
      obtain ⟨c0, c1, c2, c3⟩ := blk4 H22.out
      obtain ⟨z0, z1, z2, z3, y0, y1, y2, y3⟩ := blk4f H42.out
      go_wp2_with fail
      have K := Pa.rect_Valid.calls x y a b true w2 ((valid_f x y a b).trans (congrArg some e4))
      with_reducible refine K.mono ?_
      clear K
      rintro en w3 ⟨rfl, hd⟩
      have hb := hd
      have H23 := Lib.hid (blk_in hb H22.out)
      have H43 := Lib.hid (blk_in hb H42.out)
      have Hb3 := Lib.hid (Hb2.out.trans (hb.mono Hb2.out.size))
      have hl3 : w0.heap.size + 1 < w3.heap.size := (Array.getElem?_eq_some_iff.1 H43.out).1
      clear hb hd c0 c1 c2 c3 z0 z1 z2 z3 y0 y1 y2 y3
      obtain ⟨c0, c1, c2, c3⟩ := blk4 H23.out
      obtain ⟨z0, z1, z2, z3, y0, y1, y2, y3⟩ := blk4f H43.out
      go_wp2_with fail
      have K := Pa.rect_Empty.calls x y a b true w3 ((empty_f e4).trans (congrArg some e5))
      with_reducible refine K.mono ?_
      clear K
      rintro en w4 ⟨rfl, hd⟩
      have hb := hd
      have H24 := Lib.hid (blk_in hb H23.out)
      have H44 := Lib.hid (blk_in hb H43.out)
      have Hb4 := Lib.hid (Hb3.out.trans (hb.mono Hb3.out.size))
      have hl4 : w0.heap.size + 1 < w4.heap.size := (Array.getElem?_eq_some_iff.1 H44.out).1
      clear hb hd c0 c1 c2 c3 z0 z1 z2 z3 y0 y1 y2 y3
      obtain ⟨c0, c1, c2, c3⟩ := blk4 H24.out
      obtain ⟨z0, z1, z2, z3, y0, y1, y2, y3⟩ := blk4f H44.out
      go_wp2
      have hz : needs w h lv x y a b = (0, 0, 0, 0) := by unfold needs; rw [if_neg (by simp [e1, e2, e3, e4, e5])]
      rw [hz]
      refine bodyPost_ret (v := .agg #[.int .i64 0, .int .i64 0, .int .i64 0, .int .i64 0]) (by simp [results, Tryz.results12, go_sem, *]) rfl ⟨rfl, ?_⟩
      have hb := Hb4.out
      refine Below.setCell (Below.setCell (Below.setCell (Below.setCell hb ?_ _) ?_ _) ?_ _) ?_ _ <;> (simp; try omega)
     | false =>
      cases e6 : decide (fits w h lv x y a b) with
      | false =>
       have HbWW := HbW
       have H2W := H2
       have H4W := H4
       go_wp2_with fail
       rw [← HW.out]
       have K := side_is w true W e1
       with_reducible refine K.mono ?_
       clear K
       rintro en wx0 ⟨rfl, rfl⟩
       go_wp2_with fail

       have K := side_is h true W e2
       with_reducible refine K.mono ?_
       clear K
       rintro en wx1 ⟨rfl, rfl⟩
       go_wp2_with fail
       have K := Pa.pyramid_isLevel.calls lv true W ((level_f lv).trans (congrArg some e3))
       with_reducible refine K.mono ?_
       clear K
       rintro en w2 ⟨rfl, hd⟩
       have hb := hd.below
       have H22 := Lib.hid (blk_in hb H2W.out)
       have H42 := Lib.hid (blk_in hb H4W.out)
       have Hb2 := Lib.hid (HbW.out.trans (hb.mono HbW.out.size))
       have hl2 : w0.heap.size + 1 < w2.heap.size := (Array.getElem?_eq_some_iff.1 H42.out).1
       clear hb hd c0 c1 c2 c3 z0 z1 z2 z3 y0 y1 y2 y3
       obtain ⟨c0, c1, c2, c3⟩ := blk4 H22.out
       obtain ⟨z0, z1, z2, z3, y0, y1, y2, y3⟩ := blk4f H42.out
       go_wp2_with fail
       have K := Pa.rect_Valid.calls x y a b true w2 ((valid_f x y a b).trans (congrArg some e4))
       with_reducible refine K.mono ?_
       clear K
       rintro en w3 ⟨rfl, hd⟩
       have hb := hd
       have H23 := Lib.hid (blk_in hb H22.out)
       have H43 := Lib.hid (blk_in hb H42.out)
       have Hb3 := Lib.hid (Hb2.out.trans (hb.mono Hb2.out.size))
       have hl3 : w0.heap.size + 1 < w3.heap.size := (Array.getElem?_eq_some_iff.1 H43.out).1
       clear hb hd c0 c1 c2 c3 z0 z1 z2 z3 y0 y1 y2 y3
       obtain ⟨c0, c1, c2, c3⟩ := blk4 H23.out
       obtain ⟨z0, z1, z2, z3, y0, y1, y2, y3⟩ := blk4f H43.out
       go_wp2_with fail
       have K := Pa.rect_Empty.calls x y a b false w3 ((empty_f e4).trans (congrArg some e5))
       with_reducible refine K.mono ?_
       clear K
       rintro en w4 ⟨rfl, hd⟩
       have hb := hd
       have H24 := Lib.hid (blk_in hb H23.out)
       have H44 := Lib.hid (blk_in hb H43.out)
       have Hb4 := Lib.hid (Hb3.out.trans (hb.mono Hb3.out.size))
       have hl4 : w0.heap.size + 1 < w4.heap.size := (Array.getElem?_eq_some_iff.1 H44.out).1
       clear hb hd c0 c1 c2 c3 z0 z1 z2 z3 y0 y1 y2 y3
       obtain ⟨c0, c1, c2, c3⟩ := blk4 H24.out
       obtain ⟨z0, z1, z2, z3, y0, y1, y2, y3⟩ := blk4f H44.out
       go_wp2_with fail
       have K := Pa.pyramid_Size.calls 6 w h lv (szN lv.toNat w) (szN lv.toNat h) w4 (size_at w h lv e1 e2 e3)
       with_reducible refine K.mono ?_
       clear K
       rintro en w5 ⟨rfl, hd⟩
       have hb := hd
       have H25 := Lib.hid (blk_in hb H24.out)
       have H45 := Lib.hid (blk_in hb H44.out)
       have Hb5 := Lib.hid (Hb4.out.trans (hb.mono Hb4.out.size))
       have hl5 : w0.heap.size + 1 < w5.heap.size := (Array.getElem?_eq_some_iff.1 H45.out).1
       clear hb hd c0 c1 c2 c3 z0 z1 z2 z3 y0 y1 y2 y3
       obtain ⟨c0, c1, c2, c3⟩ := blk4 H25.out
       obtain ⟨z0, z1, z2, z3, y0, y1, y2, y3⟩ := blk4f H45.out
       go_wp2_with fail
       have K := Pa.rect_Within.calls x y a b 0 0 (szN lv.toNat w) (szN lv.toNat h) false w5 (within_at w h lv x y a b false e1 e2 e3 e4 e5 e6)
       with_reducible refine K.mono ?_
       clear K
       rintro en w6 ⟨rfl, hd⟩
       have hb := hd
       have H26 := Lib.hid (blk_in hb H25.out)
       have H46 := Lib.hid (blk_in hb H45.out)
       have Hb6 := Lib.hid (Hb5.out.trans (hb.mono Hb5.out.size))
       have hl6 : w0.heap.size + 1 < w6.heap.size := (Array.getElem?_eq_some_iff.1 H46.out).1
       clear hb hd c0 c1 c2 c3 z0 z1 z2 z3 y0 y1 y2 y3
       obtain ⟨c0, c1, c2, c3⟩ := blk4 H26.out
       obtain ⟨z0, z1, z2, z3, y0, y1, y2, y3⟩ := blk4f H46.out
       go_wp2
       have hz : needs w h lv x y a b = (0, 0, 0, 0) := by unfold needs; rw [if_neg (by simp [e1, e2, e3, e4, e5, e6])]
       rw [hz]
       refine bodyPost_ret (v := .agg #[.int .i64 0, .int .i64 0, .int .i64 0, .int .i64 0]) (by simp [results, Tryz.results12, go_sem, *]) rfl ⟨rfl, ?_⟩
       have hb := Hb6.out
       refine Below.setCell (Below.setCell (Below.setCell (Below.setCell hb ?_ _) ?_ _) ?_ _) ?_ _ <;> (simp; try omega)
      | true =>
       have hm := meet_at w h lv x y a b e1 e2 e3 e4 e5 e6
       have HbWW := HbW
       have H2W := H2
       have H4W := H4
       go_wp2_with fail
       rw [← HW.out]
       have K := side_is w true W e1
       with_reducible refine K.mono ?_
       clear K
       rintro en wx0 ⟨rfl, rfl⟩
       go_wp2_with fail

       have K := side_is h true W e2
       with_reducible refine K.mono ?_
       clear K
       rintro en wx1 ⟨rfl, rfl⟩
       go_wp2_with fail
       have K := Pa.pyramid_isLevel.calls lv true W ((level_f lv).trans (congrArg some e3))
       with_reducible refine K.mono ?_
       clear K
       rintro en w2 ⟨rfl, hd⟩
       have hb := hd.below
       have H22 := Lib.hid (blk_in hb H2W.out)
       have H42 := Lib.hid (blk_in hb H4W.out)
       have Hb2 := Lib.hid (HbW.out.trans (hb.mono HbW.out.size))
       have hl2 : w0.heap.size + 1 < w2.heap.size := (Array.getElem?_eq_some_iff.1 H42.out).1
       clear hb hd c0 c1 c2 c3 z0 z1 z2 z3 y0 y1 y2 y3
       obtain ⟨c0, c1, c2, c3⟩ := blk4 H22.out
       obtain ⟨z0, z1, z2, z3, y0, y1, y2, y3⟩ := blk4f H42.out
       go_wp2_with fail
       have K := Pa.rect_Valid.calls x y a b true w2 ((valid_f x y a b).trans (congrArg some e4))
       with_reducible refine K.mono ?_
       clear K
       rintro en w3 ⟨rfl, hd⟩
       have hb := hd
       have H23 := Lib.hid (blk_in hb H22.out)
       have H43 := Lib.hid (blk_in hb H42.out)
       have Hb3 := Lib.hid (Hb2.out.trans (hb.mono Hb2.out.size))
       have hl3 : w0.heap.size + 1 < w3.heap.size := (Array.getElem?_eq_some_iff.1 H43.out).1
       clear hb hd c0 c1 c2 c3 z0 z1 z2 z3 y0 y1 y2 y3
       obtain ⟨c0, c1, c2, c3⟩ := blk4 H23.out
       obtain ⟨z0, z1, z2, z3, y0, y1, y2, y3⟩ := blk4f H43.out
       go_wp2_with fail
       have K := Pa.rect_Empty.calls x y a b false w3 ((empty_f e4).trans (congrArg some e5))
       with_reducible refine K.mono ?_
       clear K
       rintro en w4 ⟨rfl, hd⟩
       have hb := hd
       have H24 := Lib.hid (blk_in hb H23.out)
       have H44 := Lib.hid (blk_in hb H43.out)
       have Hb4 := Lib.hid (Hb3.out.trans (hb.mono Hb3.out.size))
       have hl4 : w0.heap.size + 1 < w4.heap.size := (Array.getElem?_eq_some_iff.1 H44.out).1
       clear hb hd c0 c1 c2 c3 z0 z1 z2 z3 y0 y1 y2 y3
       obtain ⟨c0, c1, c2, c3⟩ := blk4 H24.out
       obtain ⟨z0, z1, z2, z3, y0, y1, y2, y3⟩ := blk4f H44.out
       go_wp2_with fail
       have K := Pa.pyramid_Size.calls 6 w h lv (szN lv.toNat w) (szN lv.toNat h) w4 (size_at w h lv e1 e2 e3)
       with_reducible refine K.mono ?_
       clear K
       rintro en w5 ⟨rfl, hd⟩
       have hb := hd
       have H25 := Lib.hid (blk_in hb H24.out)
       have H45 := Lib.hid (blk_in hb H44.out)
       have Hb5 := Lib.hid (Hb4.out.trans (hb.mono Hb4.out.size))
       have hl5 : w0.heap.size + 1 < w5.heap.size := (Array.getElem?_eq_some_iff.1 H45.out).1
       clear hb hd c0 c1 c2 c3 z0 z1 z2 z3 y0 y1 y2 y3
       obtain ⟨c0, c1, c2, c3⟩ := blk4 H25.out
       obtain ⟨z0, z1, z2, z3, y0, y1, y2, y3⟩ := blk4f H45.out
       go_wp2_with fail
       have K := Pa.rect_Within.calls x y a b 0 0 (szN lv.toNat w) (szN lv.toNat h) true w5 (within_at w h lv x y a b true e1 e2 e3 e4 e5 e6)
       with_reducible refine K.mono ?_
       clear K
       rintro en w6 ⟨rfl, hd⟩
       have hb := hd
       have H26 := Lib.hid (blk_in hb H25.out)
       have H46 := Lib.hid (blk_in hb H45.out)
       have Hb6 := Lib.hid (Hb5.out.trans (hb.mono Hb5.out.size))
       have hl6 : w0.heap.size + 1 < w6.heap.size := (Array.getElem?_eq_some_iff.1 H46.out).1
       clear hb hd c0 c1 c2 c3 z0 z1 z2 z3 y0 y1 y2 y3
       obtain ⟨c0, c1, c2, c3⟩ := blk4 H26.out
       obtain ⟨z0, z1, z2, z3, y0, y1, y2, y3⟩ := blk4f H46.out
       obtain ⟨hm0, m1, m2, m3, m4, m5, m6, m7, m8⟩ := hm
       have g1 : wrap64 (pow2 lv * x) = pow2 lv * x := by unfold wrap64; omega
       have g2 : wrap64 (pow2 lv * y) = pow2 lv * y := by unfold wrap64; omega
       have g3 : wrap64 (pow2 lv * a) = pow2 lv * a := by unfold wrap64; omega
       have g4 : wrap64 (pow2 lv * b) = pow2 lv * b := by unfold wrap64; omega
       have hsh := shl_lv lv e3
       obtain ⟨⟨n1, n2, n3, n4⟩, hnd⟩ : ∃ t, t = needs w h lv x y a b := ⟨_, rfl⟩
       rw [← hnd] at hm0
       have Hm0 := Lib.hid hm0
       have Hnd := Lib.hid hnd
       clear hm0 hnd
       go_wp2_with fail
       have K := Pa.rect_Meet.calls (pow2 lv * x) (pow2 lv * y) (pow2 lv * a) (pow2 lv * b) 0 0 w h n1 n2 n3 n4 w6 Hm0.out
       with_reducible refine K.mono ?_
       clear K
       rintro en w7 ⟨rfl, hb⟩
       have H47 := Lib.hid (blk_in hb H46.out)
       have Hb7 := Lib.hid (Hb6.out.trans (hb.mono Hb6.out.size))
       have hl7 : w0.heap.size + 1 < w7.heap.size := (Array.getElem?_eq_some_iff.1 H47.out).1
       clear hb c0 c1 c2 c3 z0 z1 z2 z3 y0 y1 y2 y3
       obtain ⟨z0, z1, z2, z3, y0, y1, y2, y3⟩ := blk4f H47.out
       go_wp2
       refine bodyPost_ret (v := .agg #[.int .i64 n1, .int .i64 n2, .int .i64 n3, .int .i64 n4]) (by simp [results, Tryz.results12, go_sem, *]) rfl ⟨by rw [← Hnd.out]; rfl, ?_⟩
       have hb := Hb7.out
       refine Below.setCell (Below.setCell (Below.setCell (Below.setCell hb ?_ _) ?_ _) ?_ _) ?_ _ <;> (simp; try omega)
end Go.Proofs.YtkchkfmggbejfaaGreatDoor
