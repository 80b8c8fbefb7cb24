/- The program's fill, for the two closures that it is called with. -/
import Derived.Test.YtkchkfmggbejfaaGreatDoorFl
import Derived.Deep.RegionLaw
import Derived.Test.YtkchkfmggbejfaaGreatDoorRe
import Derived.Test.YtkchkfmggbejfaaGreatDoorHw
namespace Go.Proofs.YtkchkfmggbejfaaGreatDoor
open Go.RowKit Go.Proofs.YtkchkfmggbejfaaGreatDoorW.PrintWords
set_option linter.unusedSimpArgs false
set_option maxRecDepth 20000

def pv (p : Pa.S44) : Value := .agg #[.int .i64 p.f0, .int .i64 p.f1, .int .i64 p.f2, .int .i64 p.f3]
/-- What fill keeps in its own memory: its result, the image it makes, the row. -/
def Kept (w w' : World) (W H : Nat) (u : Value) (l : List Pa.S44) : Prop :=
  w'.heap[w.heap.size]? = some (.cells #[.int .i64 0, .int .i64 0, .slice none 0 0] 31 (0, 0)) ∧ w'.heap[w.heap.size + 1 + 1]? = some (.cells #[.int .i64 W, .int .i64 H, u] 31 (0, 0)) ∧ Kd.R Pa.k44 44 w' w.heap.size (fun _ => True) u l ∧ Below w.heap.size w w'
theorem kept_cell {w w' : World} {W H : Nat} {u : Value} {l : List Pa.S44} (h : Hid (Kept w w' W H u l)) : w'.cell? ⟨w.heap.size + 1 + 1, 2, none⟩ = some u := (blk3 h.out.2.1).2.2.1
theorem make44 {W H : Nat} (hW : W ≤ 256) (hH : H ≤ 256) (w : World) : (Instr.makeSlice 29 (.int .i64 0) (.int .i64 (wrap64 ((W : Int) * (H : Int))))).run Tryz.prog w = .ok (.slice (some ⟨w.heap.size, 0, none⟩) 0 (W * H)) (w.alloc (.cells (madeCells #[.int .i64 0, .int .i64 0, .int .i64 0, .int .i64 0] ((W * H) * 4)) 44)) := by
  obtain ⟨i0, hi, hzz⟩ := Option.map_eq_some_iff.1 Pa.info44
  simp only [Prod.mk.injEq] at hzz
  obtain ⟨hz0, hz1, hz2⟩ := hzz
  have h := Nat.mul_le_mul hW hH
  have e : wrap64 ((W : Int) * (H : Int)) = ((W * H : Nat) : Int) := by rw [← Int.natCast_mul]; unfold wrap64; omega
  have hr := run_make (P := Tryz.prog) w 29 44 i0 _ Tryz.underlying29 hi hz0 .i64 .i64 0 ((W * H : Nat) : Int) (by omega) (by omega) (by rw [hz2]; omega) (by omega)
  rw [e, hr, hz1]
  simp only [Int.toNat_zero, Int.toNat_natCast]
  rfl
set_option maxHeartbeats 4000000 in
theorem fill_47 (W H : Nat) (hW : W ≤ 256) (hH : H ≤ 256) (q0 : Value) (px : Nat → Nat → Pa.S44) (w : World)
    (hcl : ∀ (x y : Nat) (w' : World), x < W → y < H → Below w.heap.size w w' → Calls Tryz.prog 47 #[.int .i64 x, .int .i64 y, q0] w' fun en w'' => en = .returned (pv (px x y)) ∧ Below w'.heap.size w' w'') :
    Calls Tryz.prog 44 #[.int .i64 W, .int .i64 H, .func (.func 47) #[] #[q0]] w fun en w' => ∃ v, en = .returned (.agg #[.int .i64 W, .int .i64 H, v]) ∧ Kd.R Pa.k44 44 w' w.heap.size (fun _ => True) v (grid W H px) ∧ Below w.heap.size w w' := by
  have hmk := make44 hW hH
  obtain ⟨W0, hW0⟩ : ∃ W0, W0 = ((w.alloc (.cells #[.int .i64 0, .int .i64 0, .slice none 0 0] 31)).alloc (.cells (madeCells #[.int .i64 0, .int .i64 0, .int .i64 0, .int .i64 0] ((W * H) * 4)) 44)).alloc (.cells #[.int .i64 W, .int .i64 H, .slice (some ⟨w.heap.size + 1, 0, none⟩) 0 (W * H)] 31) := ⟨_, rfl⟩
  have hb0 : Below w.heap.size w W0 := by rw [hW0]; exact ((bel_alloc _ _).alloc (by simp) _).alloc (by simp; omega) _
  have hk0 : W0.heap[w.heap.size]? = some (.cells #[.int .i64 0, .int .i64 0, .slice none 0 0] 31 (0, 0)) := by rw [hW0]; exact blk_alloc (blk_alloc (blk_new w _) _) _
  have hk2 : W0.heap[w.heap.size + 1 + 1]? = some (.cells #[.int .i64 W, .int .i64 H, .slice (some ⟨w.heap.size + 1, 0, none⟩) 0 (W * H)] 31 (0, 0)) := by rw [hW0]; exact blk_at _ _ _ (by simp)
  have hR0 : Kd.R Pa.k44 44 W0 w.heap.size (fun _ => True) (.slice (some ⟨w.heap.size + 1, 0, none⟩) 0 (W * H)) [] := by
    rw [hW0]
    refine Kd.R_alloc ?_ _
    have h := World.ownsRow_made (w.alloc (.cells #[.int .i64 0, .int .i64 0, .slice none 0 0] 31)) (e := 44) (size := 4) (base := w.heap.size) (madeCells #[.int .i64 0, .int .i64 0, .int .i64 0, .int .i64 0] ((W * H) * 4)) (W * H) (by simp) (by have := Nat.mul_le_mul hW hH; simp [maxLen]; omega) (size_madeCells _ _)
    have e : (w.alloc (.cells #[.int .i64 0, .int .i64 0, .slice none 0 0] 31)).heap.size = w.heap.size + 1 := by simp
    rw [e] at h
    exact fl_R (l := []) h
  have HW0 := Lib.hid hW0
  have HB0 := Lib.hid hb0
  have HK0 := Lib.hid hk0
  have HK2 := Lib.hid hk2
  have HR0 := Lib.hid hR0
  have HCL := Lib.hid hcl
  clear hW0 hb0 hk0 hk2 hR0 hcl
  go_enter Tryz.func44, Tryz.ntmps44
  go_wp2_with fail
  rw [← HW0.out]
  go_loopw [18] (fun v18 wr => ∃ (y : Nat) (v : Value), y ≤ H ∧ v18 = .int .i64 y ∧ wr.heap[w.heap.size]? = some (.cells #[.int .i64 0, .int .i64 0, .slice none 0 0] 31 (0, 0)) ∧ wr.heap[w.heap.size + 1 + 1]? = some (.cells #[.int .i64 W, .int .i64 H, v] 31 (0, 0)) ∧ Kd.R Pa.k44 44 wr w.heap.size (fun _ => True) v (grid W y px) ∧ Below w.heap.size w wr) (fun v _ => H - (intOf v).toNat)
  case atStart => exact ⟨0, _, Nat.zero_le _, rfl, HK0.out, HK2.out, HR0.out, HB0.out⟩
  case round =>
    obtain ⟨y, v, hy, rfl, hk0, hk2, hR, hb⟩ := hrel
    have GK0 := Lib.hid hk0
    have GK2 := Lib.hid hk2
    have GR := Lib.hid hR
    have GB := Lib.hid hb
    clear hk0 hk2 hR hb
    by_cases hlt : y < H
    · have hyl : (y : Int) < (H : Int) := by omega
      go_wp2_with fail
      go_loopw [22] (fun v22 ws => ∃ (x : Nat) (u : Value), x ≤ W ∧ v22 = .int .i64 x ∧ ws.heap[w.heap.size]? = some (.cells #[.int .i64 0, .int .i64 0, .slice none 0 0] 31 (0, 0)) ∧ ws.heap[w.heap.size + 1 + 1]? = some (.cells #[.int .i64 W, .int .i64 H, u] 31 (0, 0)) ∧ Kd.R Pa.k44 44 ws w.heap.size (fun _ => True) u (grid W y px ++ (List.range x).map fun x => px x y) ∧ Below w.heap.size w ws) (fun v _ => W - (intOf v).toNat)
      case atStart => exact ⟨0, v, Nat.zero_le _, rfl, GK0.out, GK2.out, by simpa using GR.out, GB.out⟩
      case round =>
        obtain ⟨x, u, hx, rfl, hk0, hk2, hR, hb⟩ := hrel
        obtain ⟨cur, hcur⟩ : ∃ cur, cur = grid W y px ++ (List.range x).map fun x => px x y := ⟨_, rfl⟩
        rw [← hcur] at hR
        have Hcur := Lib.hid hcur
        have FK0 := Lib.hid hk0
        have FK2 := Lib.hid hk2
        have FR := Lib.hid hR
        have FB := Lib.hid hb
        obtain ⟨c0, c1, c2, f0, f1, f2⟩ := blk3 hk2
        clear hk0 hk2 hR hb hcur
        by_cases hlx : x < W
        · have hxl : (x : Int) < (W : Int) := by omega
          obtain ⟨Au, cu, rfl⟩ := Kd.R_slice FR.out
          have hne : some (w.heap.size + 1 + 1) ≠ (.slice Au cur.length cu : Value).ownBlock := Kd.R_ne FR.out FK2.out (by decide)
          have Hne := Lib.hid hne
          have hml : (cur.length + 1) * 32 ≤ 140737488355328 := by
            rw [Hcur.out, List.length_append, grid_length, List.length_map, List.length_range]
            have : y * W ≤ 256 * 256 := Nat.mul_le_mul (by omega) hW
            omega
          have Hml := Lib.hid hml
          clear hne hml
          go_wp2_with fail
          go_region_law
            (first
              | (go_simp
                 go_at_call 47
                 have K := HCL.out x y wr.drew hlx hlt (Below.drew FB.out)
                 unfold pv at K
                 with_reducible refine K.mono ?_
                 clear K
                 rintro en w5 ⟨rfl, hb5⟩
                 have P5 : Hid (Kept w w5 W H (.slice Au cur.length cu) cur) := Lib.hid ⟨blk_in hb5 (blk_drew FK0.out), blk_in hb5 (blk_drew FK2.out), Kd.R_below (Kd.R_drew FR.out) hb5, (Below.drew FB.out).trans (hb5.mono (Below.drew FB.out).size)⟩
                 have cz5 := (blk3 P5.out.2.1).2.2.1
                 have cz6 := fun o : Obj => (blk3 (blk_alloc P5.out.2.1 o)).2.2.1
                 clear hb5)
              | (refine Kd.R_append_step Pa.k44 (w0 := w) w.heap.size (by rfl) (.tmp 26) (.tmp 31) 29 44 (.agg #[(.int .i64 0), (.int .i64 0), (.int .i64 0), (.int .i64 0)]) 32 rfl Tryz.underlying29 Pa.info44 rfl (by decide) (by omega) (.slice Au cur.length cu) cur (px x y) [.int .i64 (px x y).f0, .int .i64 (px x y).f1, .int .i64 (px x y).f2, .int .i64 (px x y).f3] (fun _ => True) (fun _ => False) rfl rfl (Pa.k44_mkM _ _ _ _) (fun _ hk => hk.elim) (fun _ _ => trivial) P5.out.2.2.1 P5.out.2.2.2 P5.out.2.2.2.size Hml.out ?_
                 intro v6 w6 ho6 hb6 hg6 hat6
                 obtain ⟨A6, c6, rfl⟩ := Kd.R_slice ho6
                 have FBb := Lib.hid hb6
                 have FRb := Lib.hid ho6
                 have FK0b := Lib.hid (blk_grown P5.out.1 hg6 (Kd.R_ne P5.out.2.2.1 P5.out.1 (by decide)))
                 have FK2b := Lib.hid (blk_grown P5.out.2.1 hg6 Hne.out)
                 have cz := (blk3 FK2b.out).2.2.1
                 have fz := (blk3 FK2b.out).2.2.2.2.2
                 clear ho6 hb6 hg6 hat6 P5))
          all_goals
            go_wp2
            go_roundw
            case rel =>
              refine ⟨x + 1, _, by omega, by go_num, ?_, blk_set FK2b.out 2 _, ?_, ?_⟩
              · exact blk_far FK0b.out (Nat.ne_of_lt (Nat.lt_succ_of_lt (Nat.lt_succ_self _))) _
              · rw [List.range_succ, List.map_append, ← List.append_assoc, ← Hcur.out]
                have hR := Kd.R_set FRb.out FK2b.out (by decide) 2 (.slice A6 (cur.length + 1) c6)
                have e : (cur ++ [px x y]).length = cur.length + 1 := by simp
                rw [e] at hR
                exact hR
              · exact Below.setCell FBb.out (by simp; omega) _
            case measure => simp [intOf]; omega
        · obtain rfl : x = W := by omega
          go_wp2
          go_roundw
          case rel =>
            refine ⟨y + 1, u, by omega, by go_num, FK0.out, FK2.out, ?_, FB.out⟩
            rw [grid_succ, ← Hcur.out]
            exact FR.out
          case measure => simp [intOf]; omega
    · obtain rfl : y = H := by omega
      obtain ⟨Av, cw, rfl⟩ := Kd.R_slice GR.out
      obtain ⟨c0, c1, c2, f0, f1, f2⟩ := blk3 GK2.out
      obtain ⟨d0, d1, d2, g0, g1, g2⟩ := blk3 GK0.out
      have hl0 : w.heap.size < wr.heap.size := (Array.getElem?_eq_some_iff.1 GK0.out).1
      go_wp2
      refine bodyPost_ret (v := .agg #[.int .i64 W, .int .i64 y, .slice Av (grid W y px).length cw]) (by simp [results, Tryz.results44, go_sem, *]) rfl ⟨_, rfl, set3 GR.out GK0.out (by decide) _ _ _, ?_⟩
      refine Below.setCell (Below.setCell (Below.setCell GB.out ?_ _) ?_ _) ?_ _ <;> (simp; try omega)

end Go.Proofs.YtkchkfmggbejfaaGreatDoor
