/- The program's Crop, of a rectangle within an image. -/
import Derived.Test.YtkchkfmggbejfaaGreatDoorFi
import Derived.Test.YtkchkfmggbejfaaGreatDoorHz
import Derived.Test.YtkchkfmggbejfaaGreatDoorPp
namespace Go.Proofs.YtkchkfmggbejfaaGreatDoor
open Go.RowKit Go.Proofs.YtkchkfmggbejfaaGreatDoorW.PrintWords
set_option linter.unusedSimpArgs false
set_option maxRecDepth 20000

theorem rd_S {l : List Pa.S44} {j : Nat} {q : Pa.S44} (h : l[j]? = some q) : Pa.rd_T44 l (j : Int) = q := by
  unfold Pa.rd_T44; rw [List.getD_eq_getElem?_getD, Int.toNat_natCast, h]; rfl
theorem idx_S {X Y w J : Nat} (hY : Y ≤ 256) (hX : X ≤ 256) (hw : w ≤ 256) (hJ : J = Y * w + X) : wrap64 (wrap64 ((Y : Int) * (w : Int)) + (X : Int)) = (J : Int) := by
  have h : Y * w ≤ 256 * 256 := Nat.mul_le_mul hY hw
  rw [wmul (by omega), wadd (by omega) (by omega), hJ]

theorem get_ok (i : Im) (hi : i.ok) (A : Option Addr) (c : Nat) (X Y : Nat) (hX : X < i.w) (hY : Y < i.h) (w : World) (hr : Kd.C Pa.k44 w A i.p.length i.p) :
    Calls Tryz.prog 46 #[.agg #[.int .i64 i.w, .int .i64 i.h, .slice A i.p.length c], .int .i64 X, .int .i64 Y] w fun en w' => en = .returned (pv (atS i X Y)) ∧ Below w.heap.size w w' := by
  obtain ⟨W, hW⟩ : ∃ W, W = (w.alloc (.cells #[.int .i64 i.w, .int .i64 i.h, .slice A i.p.length c] 31)).alloc (.cells #[.int .i64 0, .int .i64 0, .int .i64 0, .int .i64 0] 44) := ⟨_, rfl⟩
  have hb : Below w.heap.size w W := by rw [hW]; exact (bel_alloc _ _).alloc (by simp) _
  have hx : W.heap[w.heap.size]? = some (.cells #[.int .i64 i.w, .int .i64 i.h, .slice A i.p.length c] 31 (0, 0)) := by rw [hW]; exact blk_in (bel_alloc _ _) (blk_new w _)
  have hq := atS_get hi.len hX hY
  obtain ⟨J, hJ⟩ : ∃ J, J = Y * i.w + X := ⟨_, rfl⟩
  have hJl : J < i.p.length := by rw [hJ]; exact (List.getElem?_eq_some_iff.1 hq).1
  have hJl' : (J : Int) < (i.p.length : Int) := Int.ofNat_lt.2 hJl
  obtain ⟨ad, hA, z0, z1, z2, z3⟩ := Pa.at_T44 (Kd.C_below hr hb) (J : Int) (Int.natCast_nonneg _) hJl'
  have er : Pa.rd_T44 i.p (J : Int) = atS i X Y := rd_S (by rw [hJ]; exact hq)
  rw [er, Int.toNat_natCast] at z0 z1 z2 z3
  have ei := idx_S (Nat.le_trans (Nat.le_of_lt hY) hi.hb) (Nat.le_trans (Nat.le_of_lt hX) hi.ha) hi.ha hJ
  have d0 : decide ((X : Int) < 0) = false := decide_eq_false (Int.not_lt.2 (Int.natCast_nonneg _))
  have d1 : decide ((X : Int) ≥ (i.w : Int)) = false := decide_eq_false (Int.not_le.2 (Int.ofNat_lt.2 hX))
  have d2 : decide ((Y : Int) < 0) = false := decide_eq_false (Int.not_lt.2 (Int.natCast_nonneg _))
  have d3 : decide ((Y : Int) ≥ (i.h : Int)) = false := decide_eq_false (Int.not_le.2 (Int.ofNat_lt.2 hY))
  obtain ⟨c0, c1, c2, _⟩ := blk3 hx
  have HW := Lib.hid hW
  have HB := Lib.hid hb
  subst hA
  rw [hW] at c0 c1 c2 z0 z1 z2 z3
  clear hW hb hx hr hq er hJ hJl hi
  go_enter Tryz.func46, Tryz.ntmps46
  go_wp2
  refine bodyPost_ret (v := pv (atS i X Y)) (by simp [results, Tryz.results46, go_sem, pv, *]) rfl ⟨rfl, ?_⟩
  refine (bel_alloc _ _).alloc ?_ _
  simp

theorem cl45 (i : Im) (hi : i.ok) (A : Option Addr) (c b1 b2 rx ry : Nat) (ra rb : Int) (u v : Nat) (hX : rx + u < i.w) (hY : ry + v < i.h) (w : World) (hr : Kd.C Pa.k44 w A i.p.length i.p)
    (h1 : w.heap[b1]? = some (.cells #[.int .i64 i.w, .int .i64 i.h, .slice A i.p.length c] 31 (0, 0))) (h2 : w.heap[b2]? = some (.cells #[.int .i64 rx, .int .i64 ry, .int .i64 ra, .int .i64 rb] 23 (0, 0))) :
    Calls Tryz.prog 45 #[.int .i64 u, .int .i64 v, .pointer (some ⟨b1, 0, none⟩), .pointer (some ⟨b2, 0, none⟩)] w fun en w' => en = .returned (pv (atS i (rx + u) (ry + v))) ∧ Below w.heap.size w w' := by
  obtain ⟨W, hW⟩ : ∃ W, W = w.alloc (.cells #[.int .i64 0, .int .i64 0, .int .i64 0, .int .i64 0] 44) := ⟨_, rfl⟩
  have hb : Below w.heap.size w W := by rw [hW]; exact bel_alloc _ _
  have hn : W.heap[w.heap.size]? = some (.cells #[.int .i64 0, .int .i64 0, .int .i64 0, .int .i64 0] 44 (0, 0)) := by rw [hW]; exact blk_new w _
  obtain ⟨c0, c1, c2, _⟩ := blk3 (blk_in hb h1)
  obtain ⟨d0, d1, d2, d3⟩ := blk4 (blk_in hb h2)
  have hw := hi.ha
  have hh := hi.hb
  have HW := Lib.hid hW
  have HB := Lib.hid hb
  have HN := Lib.hid hn
  have HR := Lib.hid (Kd.C_below hr hb)
  have HI := Lib.hid hi
  rw [hW] at c0 c1 c2 d0 d1 d2 d3
  have e1 : wrap64 ((rx : Int) + (u : Int)) = ((rx + u : Nat) : Int) := wadd (by omega) (by omega)
  have e2 : wrap64 ((ry : Int) + (v : Int)) = ((ry + v : Nat) : Int) := wadd (by omega) (by omega)
  clear hW hb hn hr h1 h2 hi
  go_enter Tryz.func45, Tryz.ntmps45
  go_wp2_with fail
  rw [← HW.out]
  have K := get_ok i HI.out A c (rx + u) (ry + v) hX hY W HR.out
  rw [Int.natCast_add, Int.natCast_add] at K
  unfold pv at K
  with_reducible refine K.mono ?_
  clear K
  rintro en w1 ⟨rfl, hb⟩
  have FN := Lib.hid (blk_in hb HN.out)
  have FB := Lib.hid (HB.out.trans (hb.mono HB.out.size))
  clear hb c0 c1 c2 d0 d1 d2 d3
  obtain ⟨d0, d1, d2, d3⟩ := blk4 FN.out
  have f0 := blk_frozen FN.out 0
  have f1 := blk_frozen FN.out 1
  have f2 := blk_frozen FN.out 2
  have f3 := blk_frozen FN.out 3
  have hl : w.heap.size < w1.heap.size := (Array.getElem?_eq_some_iff.1 FN.out).1
  go_wp2
  refine bodyPost_ret (v := pv (atS i (rx + u) (ry + v))) (by simp [results, Tryz.results45, go_sem, pv, *]) rfl ⟨rfl, ?_⟩
  refine Below.setCell (Below.setCell (Below.setCell (Below.setCell FB.out ?_ _) ?_ _) ?_ _) ?_ _ <;> (simp; try omega)

set_option maxHeartbeats 4000000 in
theorem fill_45 (W H : Nat) (hW : W ≤ 256) (hH : H ≤ 256) (q0 q1 : Value) (px : Nat → Nat → Pa.S44) (w : World)
    (hcl : ∀ (x y : Nat) (w' : World), x < W → y < H → Below w.heap.size w w' → Calls Tryz.prog 45 #[.int .i64 x, .int .i64 y, q0, q1] w' fun en w'' => en = .returned (pv (px x y)) ∧ Below w'.heap.size w' w'') :
    Calls Tryz.prog 44 #[.int .i64 W, .int .i64 H, .func (.func 45) #[] #[q0, q1]] w fun en w' => ∃ v, en = .returned (.agg #[.int .i64 W, .int .i64 H, v]) ∧ Kd.R Pa.k44 44 w' w.heap.size (fun _ => True) v (grid W H px) ∧ Below w.heap.size w w' := by
  have hmk := make44 hW hH
  obtain ⟨W0, hW0⟩ : ∃ W0, W0 = ((w.alloc (.cells #[.int .i64 0, .int .i64 0, .slice none 0 0] 31)).alloc (.cells (madeCells #[.int .i64 0, .int .i64 0, .int .i64 0, .int .i64 0] ((W * H) * 4)) 44)).alloc (.cells #[.int .i64 W, .int .i64 H, .slice (some ⟨w.heap.size + 1, 0, none⟩) 0 (W * H)] 31) := ⟨_, rfl⟩
  have hb0 : Below w.heap.size w W0 := by rw [hW0]; exact ((bel_alloc _ _).alloc (by simp) _).alloc (by simp; omega) _
  have hk0 : W0.heap[w.heap.size]? = some (.cells #[.int .i64 0, .int .i64 0, .slice none 0 0] 31 (0, 0)) := by rw [hW0]; exact blk_alloc (blk_alloc (blk_new w _) _) _
  have hk2 : W0.heap[w.heap.size + 1 + 1]? = some (.cells #[.int .i64 W, .int .i64 H, .slice (some ⟨w.heap.size + 1, 0, none⟩) 0 (W * H)] 31 (0, 0)) := by rw [hW0]; exact blk_at _ _ _ (by simp)
  have hR0 : Kd.R Pa.k44 44 W0 w.heap.size (fun _ => True) (.slice (some ⟨w.heap.size + 1, 0, none⟩) 0 (W * H)) [] := by
    rw [hW0]
    refine Kd.R_alloc ?_ _
    have h := World.ownsRow_made (w.alloc (.cells #[.int .i64 0, .int .i64 0, .slice none 0 0] 31)) (e := 44) (size := 4) (base := w.heap.size) (madeCells #[.int .i64 0, .int .i64 0, .int .i64 0, .int .i64 0] ((W * H) * 4)) (W * H) (by simp) (by have := Nat.mul_le_mul hW hH; simp [maxLen]; omega) (size_madeCells _ _)
    have e : (w.alloc (.cells #[.int .i64 0, .int .i64 0, .slice none 0 0] 31)).heap.size = w.heap.size + 1 := by simp
    rw [e] at h
    exact fl_R (l := []) h
  have HW0 := Lib.hid hW0
  have HB0 := Lib.hid hb0
  have HK0 := Lib.hid hk0
  have HK2 := Lib.hid hk2
  have HR0 := Lib.hid hR0
  have HCL := Lib.hid hcl
  clear hW0 hb0 hk0 hk2 hR0 hcl
  go_enter Tryz.func44, Tryz.ntmps44
  go_wp2_with fail
  rw [← HW0.out]
  go_loopw [18] (fun v18 wr => ∃ (y : Nat) (v : Value), y ≤ H ∧ v18 = .int .i64 y ∧ wr.heap[w.heap.size]? = some (.cells #[.int .i64 0, .int .i64 0, .slice none 0 0] 31 (0, 0)) ∧ wr.heap[w.heap.size + 1 + 1]? = some (.cells #[.int .i64 W, .int .i64 H, v] 31 (0, 0)) ∧ Kd.R Pa.k44 44 wr w.heap.size (fun _ => True) v (grid W y px) ∧ Below w.heap.size w wr) (fun v _ => H - (intOf v).toNat)
  case atStart => exact ⟨0, _, Nat.zero_le _, rfl, HK0.out, HK2.out, HR0.out, HB0.out⟩
  case round =>
    obtain ⟨y, v, hy, rfl, hk0, hk2, hR, hb⟩ := hrel
    have GK0 := Lib.hid hk0
    have GK2 := Lib.hid hk2
    have GR := Lib.hid hR
    have GB := Lib.hid hb
    clear hk0 hk2 hR hb
    by_cases hlt : y < H
    · have hyl : (y : Int) < (H : Int) := by omega
      go_wp2_with fail
      go_loopw [22] (fun v22 ws => ∃ (x : Nat) (u : Value), x ≤ W ∧ v22 = .int .i64 x ∧ ws.heap[w.heap.size]? = some (.cells #[.int .i64 0, .int .i64 0, .slice none 0 0] 31 (0, 0)) ∧ ws.heap[w.heap.size + 1 + 1]? = some (.cells #[.int .i64 W, .int .i64 H, u] 31 (0, 0)) ∧ Kd.R Pa.k44 44 ws w.heap.size (fun _ => True) u (grid W y px ++ (List.range x).map fun x => px x y) ∧ Below w.heap.size w ws) (fun v _ => W - (intOf v).toNat)
      case atStart => exact ⟨0, v, Nat.zero_le _, rfl, GK0.out, GK2.out, by simpa using GR.out, GB.out⟩
      case round =>
        obtain ⟨x, u, hx, rfl, hk0, hk2, hR, hb⟩ := hrel
        obtain ⟨cur, hcur⟩ : ∃ cur, cur = grid W y px ++ (List.range x).map fun x => px x y := ⟨_, rfl⟩
        rw [← hcur] at hR
        have Hcur := Lib.hid hcur
        have FK0 := Lib.hid hk0
        have FK2 := Lib.hid hk2
        have FR := Lib.hid hR
        have FB := Lib.hid hb
        obtain ⟨c0, c1, c2, f0, f1, f2⟩ := blk3 hk2
        clear hk0 hk2 hR hb hcur
        by_cases hlx : x < W
        · have hxl : (x : Int) < (W : Int) := by omega
          obtain ⟨Au, cu, rfl⟩ := Kd.R_slice FR.out
          have hne : some (w.heap.size + 1 + 1) ≠ (.slice Au cur.length cu : Value).ownBlock := Kd.R_ne FR.out FK2.out (by decide)
          have Hne := Lib.hid hne
          have hml : (cur.length + 1) * 32 ≤ 140737488355328 := by
            rw [Hcur.out, List.length_append, grid_length, List.length_map, List.length_range]
            have : y * W ≤ 256 * 256 := Nat.mul_le_mul (by omega) hW
            omega
          have Hml := Lib.hid hml
          clear hne hml
          go_wp2_with fail
          go_region_law
            (first
              | (go_simp
                 go_at_call 45
                 have K := HCL.out x y wr.drew hlx hlt (Below.drew FB.out)
                 unfold pv at K
                 with_reducible refine K.mono ?_
                 clear K
                 rintro en w5 ⟨rfl, hb5⟩
                 have P5 : Hid (Kept w w5 W H (.slice Au cur.length cu) cur) := Lib.hid ⟨blk_in hb5 (blk_drew FK0.out), blk_in hb5 (blk_drew FK2.out), Kd.R_below (Kd.R_drew FR.out) hb5, (Below.drew FB.out).trans (hb5.mono (Below.drew FB.out).size)⟩
                 have cz5 := (blk3 P5.out.2.1).2.2.1
                 have cz6 := fun o : Obj => (blk3 (blk_alloc P5.out.2.1 o)).2.2.1
                 clear hb5)
              | (refine Kd.R_append_step Pa.k44 (w0 := w) w.heap.size (by rfl) (.tmp 26) (.tmp 31) 29 44 (.agg #[(.int .i64 0), (.int .i64 0), (.int .i64 0), (.int .i64 0)]) 32 rfl Tryz.underlying29 Pa.info44 rfl (by decide) (by omega) (.slice Au cur.length cu) cur (px x y) [.int .i64 (px x y).f0, .int .i64 (px x y).f1, .int .i64 (px x y).f2, .int .i64 (px x y).f3] (fun _ => True) (fun _ => False) rfl rfl (Pa.k44_mkM _ _ _ _) (fun _ hk => hk.elim) (fun _ _ => trivial) P5.out.2.2.1 P5.out.2.2.2 P5.out.2.2.2.size Hml.out ?_
                 intro v6 w6 ho6 hb6 hg6 hat6
                 obtain ⟨A6, c6, rfl⟩ := Kd.R_slice ho6
                 have FBb := Lib.hid hb6
                 have FRb := Lib.hid ho6
                 have FK0b := Lib.hid (blk_grown P5.out.1 hg6 (Kd.R_ne P5.out.2.2.1 P5.out.1 (by decide)))
                 have FK2b := Lib.hid (blk_grown P5.out.2.1 hg6 Hne.out)
                 have cz := (blk3 FK2b.out).2.2.1
                 have fz := (blk3 FK2b.out).2.2.2.2.2
                 clear ho6 hb6 hg6 hat6 P5))
          all_goals
            go_wp2
            go_roundw
            case rel =>
              refine ⟨x + 1, _, by omega, by go_num, ?_, blk_set FK2b.out 2 _, ?_, ?_⟩
              · exact blk_far FK0b.out (Nat.ne_of_lt (Nat.lt_succ_of_lt (Nat.lt_succ_self _))) _
              · rw [List.range_succ, List.map_append, ← List.append_assoc, ← Hcur.out]
                have hR := Kd.R_set FRb.out FK2b.out (by decide) 2 (.slice A6 (cur.length + 1) c6)
                have e : (cur ++ [px x y]).length = cur.length + 1 := by simp
                rw [e] at hR
                exact hR
              · exact Below.setCell FBb.out (by simp; omega) _
            case measure => simp [intOf]; omega
        · obtain rfl : x = W := by omega
          go_wp2
          go_roundw
          case rel =>
            refine ⟨y + 1, u, by omega, by go_num, FK0.out, FK2.out, ?_, FB.out⟩
            rw [grid_succ, ← Hcur.out]
            exact FR.out
          case measure => simp [intOf]; omega
    · obtain rfl : y = H := by omega
      obtain ⟨Av, cw, rfl⟩ := Kd.R_slice GR.out
      obtain ⟨c0, c1, c2, f0, f1, f2⟩ := blk3 GK2.out
      obtain ⟨d0, d1, d2, g0, g1, g2⟩ := blk3 GK0.out
      have hl0 : w.heap.size < wr.heap.size := (Array.getElem?_eq_some_iff.1 GK0.out).1
      go_wp2
      refine bodyPost_ret (v := .agg #[.int .i64 W, .int .i64 y, .slice Av (grid W y px).length cw]) (by simp [results, Tryz.results44, go_sem, *]) rfl ⟨_, rfl, set3 GR.out GK0.out (by decide) _ _ _, ?_⟩
      refine Below.setCell (Below.setCell (Below.setCell GB.out ?_ _) ?_ _) ?_ _ <;> (simp; try omega)


theorem crop_ok (i : Im) (hi : i.ok) (A : Option Addr) (c x y a b : Nat) (ha : 0 < a) (hb : 0 < b) (hx : x + a ≤ i.w) (hy : y + b ≤ i.h) (w : World) (hr : Kd.C Pa.k44 w A i.p.length i.p) (hc : i.p.length ≤ c) :
    Calls Tryz.prog 22 #[.agg #[.int .i64 i.w, .int .i64 i.h, .slice A i.p.length c], .agg #[.int .i64 x, .int .i64 y, .int .i64 a, .int .i64 b]] w fun en w' => ∃ v, en = .returned (.tuple #[.agg #[.int .i64 a, .int .i64 b, v], .int .i64 0]) ∧ Kd.R Pa.k44 44 w' w.heap.size (fun _ => True) v (cropS i x y a b).p ∧ Below w.heap.size w w' := by
  obtain ⟨X, hX⟩ : ∃ X, X = ((w.alloc (.cells #[.int .i64 i.w, .int .i64 i.h, .slice A i.p.length c] 31)).alloc (.cells #[.int .i64 x, .int .i64 y, .int .i64 a, .int .i64 b] 23)).alloc (.cells #[.int .i64 0, .int .i64 0, .slice none 0 0] 31) := ⟨_, rfl⟩
  have hbX : Below w.heap.size w X := by rw [hX]; exact ((bel_alloc _ _).alloc (by simp) _).alloc (by simp; omega) _
  have h2 : X.heap[w.heap.size]? = some (.cells #[.int .i64 i.w, .int .i64 i.h, .slice A i.p.length c] 31 (0, 0)) := by rw [hX]; exact blk_alloc (blk_alloc (blk_new w _) _) _
  have h3 : X.heap[w.heap.size + 1]? = some (.cells #[.int .i64 x, .int .i64 y, .int .i64 a, .int .i64 b] 23 (0, 0)) := by rw [hX]; exact blk_alloc (blk_at _ _ _ (by simp)) _
  have h4 : X.heap[w.heap.size + 1 + 1]? = some (.cells #[.int .i64 0, .int .i64 0, .slice none 0 0] 31 (0, 0)) := by rw [hX]; exact blk_at _ _ _ (by simp)
  obtain ⟨k, q⟩ := (check_ev i.w i.h i.p).got
  rw [vim_chk hi] at q
  have hw := hi.ha
  have hh := hi.hb
  have hv : vR x y a b = true := vR_iff.2 ⟨by omega, by omega⟩
  have v1 := (valid_f (x : Int) y a b).trans (congrArg some hv)
  have v2 := (empty_f hv).trans (congrArg some (decide_eq_false (by omega)))
  have d0 : decide ((a : Int) > 256) = false := decide_eq_false (by omega)
  have d1 : decide ((b : Int) > 256) = false := decide_eq_false (by omega)
  have hmf : ∀ (fn : Fn) (first cap : Array Value) (w : World), (Instr.makeFunc fn first cap).run Tryz.prog w = .ok (.func fn first cap) w := fun _ _ _ _ => rfl
  have HI := Lib.hid hi
  have HX := Lib.hid hX
  have HB := Lib.hid hbX
  have H2 := Lib.hid h2
  have H3 := Lib.hid h3
  have H4 := Lib.hid h4
  have HR := Lib.hid (Kd.C_below hr hbX)
  have Q := Lib.hid q
  have V1 := Lib.hid v1
  have V2 := Lib.hid v2
  obtain ⟨c0, c1, c2, _⟩ := blk3 h2
  rw [hX] at c0 c1 c2
  clear hX hbX h2 h3 h4 hr q v1 v2 hv hi
  go_enter Tryz.func22, Tryz.ntmps22
  go_wp2_with fail
  rw [← HX.out]
  have K := Pa.raster_Check.calls k i.w i.h A c i.p 0 X HR.out hc Q.out
  with_reducible refine K.mono ?_
  clear K
  rintro en w1 ⟨rfl, hb⟩
  have A2 := Lib.hid (blk_in hb H2.out)
  have A3 := Lib.hid (blk_in hb H3.out)
  have A4 := Lib.hid (blk_in hb H4.out)
  have AB := Lib.hid (HB.out.trans (hb.mono HB.out.size))
  have AR := Lib.hid (Kd.C_below HR.out hb)
  clear hb c0 c1 c2
  obtain ⟨r0, r1, r2, r3⟩ := blk4 A3.out
  go_wp2_with fail
  have K := Pa.rect_Valid.calls x y a b true w1 V1.out
  with_reducible refine K.mono ?_
  clear K
  rintro en w2 ⟨rfl, hb⟩
  have B2 := Lib.hid (blk_in hb A2.out)
  have B3 := Lib.hid (blk_in hb A3.out)
  have B4 := Lib.hid (blk_in hb A4.out)
  have BB := Lib.hid (AB.out.trans (hb.mono AB.out.size))
  have BR := Lib.hid (Kd.C_below AR.out hb)
  clear hb r0 r1 r2 r3
  obtain ⟨r0, r1, r2, r3⟩ := blk4 B3.out
  go_wp2_with fail
  have K := Pa.rect_Empty.calls x y a b false w2 V2.out
  with_reducible refine K.mono ?_
  clear K
  rintro en w3 ⟨rfl, hb⟩
  have C2 := Lib.hid (blk_in hb B2.out)
  have C3 := Lib.hid (blk_in hb B3.out)
  have C4 := Lib.hid (blk_in hb B4.out)
  have CB := Lib.hid (BB.out.trans (hb.mono BB.out.size))
  have CR := Lib.hid (Kd.C_below BR.out hb)
  clear hb r0 r1 r2 r3
  obtain ⟨r0, r1, r2, r3⟩ := blk4 C3.out
  go_wp2_with fail
  have K := fill_45 a b (by omega) (by omega) (.pointer (some ⟨w.heap.size, 0, none⟩)) (.pointer (some ⟨w.heap.size + 1, 0, none⟩)) (fun u v => atS i (x + u) (y + v)) w3 (fun u v w' hu hv hb' => cl45 i HI.out A c w.heap.size (w.heap.size + 1) x y a b u v (by omega) (by omega) w' (Kd.C_below CR.out hb') (blk_in hb' C2.out) (blk_in hb' C3.out))
  with_reducible refine K.mono ?_
  clear K
  rintro en w4 ⟨v4, rfl, hv4, hb⟩
  obtain ⟨A5, c5, rfl⟩ := Kd.R_slice hv4
  have D4 := Lib.hid (blk_in hb C4.out)
  have DB := Lib.hid (CB.out.trans (hb.mono CB.out.size))
  have DV := Lib.hid (Kd.R_lower hv4 CB.out.size)
  clear hb hv4 r0 r1 r2 r3
  obtain ⟨d0, d1, d2, y0, y1, y2⟩ := blk3 D4.out
  have hl4 : w.heap.size + 1 + 1 < w4.heap.size := (Array.getElem?_eq_some_iff.1 D4.out).1
  go_wp2
  refine bodyPost_ret (v := .tuple #[.agg #[.int .i64 a, .int .i64 b, .slice A5 (grid a b fun u v => atS i (x + u) (y + v)).length c5], .int .i64 0]) (by simp [results, Tryz.results22, go_sem, *]) rfl ⟨_, rfl, set3 DV.out D4.out (by decide) _ _ _, ?_⟩
  refine Below.setCell (Below.setCell (Below.setCell DB.out ?_ _) ?_ _) ?_ _ <;> (simp; try omega)
end Go.Proofs.YtkchkfmggbejfaaGreatDoor
