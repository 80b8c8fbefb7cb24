/- The law PyramidMeans walked. Printed by lm.py. -/
import Derived.Test.YtkchkfmggbejfaaGreatDoorAw
import Derived.Test.YtkchkfmggbejfaaGreatDoorSf
import Derived.Test.YtkchkfmggbejfaaGreatDoorMn
import Derived.Test.YtkchkfmggbejfaaGreatDoorNw
import Derived.Test.YtkchkfmggbejfaaGreatDoorOi
namespace Go.Proofs.YtkchkfmggbejfaaGreatDoor
open Go.RowKit Go.Proofs.YtkchkfmggbejfaaGreatDoorW.PrintWords Go.Proofs.YtkchkfmggbejfaaGreatDoorW.PrintMore
set_option linter.unusedSimpArgs false
set_option maxRecDepth 40000

theorem Half_ev' {i : Im} (hi : i.ok) : Ev (fun k => Pa.pyramid_Half.f k i.w i.h i.p) ((((i.w + 1) / 2 : Nat) : Int), (((i.h + 1) / 2 : Nat) : Int), halfS i.w i.h i.p, 0) := by
  have h := check_ev i.w i.h i.p
  rw [vim_chk hi] at h
  unfold Pa.pyramid_Half.f
  exact Ev.bind h (Ev.pos rfl (Ev.bind (half_ev hi) (Ev.all fun _ => rfl)))

theorem means_x {x n X : Nat} (hx : x ≤ 256) (h : X = 2 * x + n % 2) : wrap64 (wrap64 (2 * (x : Int)) + (n : Int) % 2) = (X : Int) := by
  rw [w2 (by omega), w64 (by omega) (by omega)]; omega
theorem means_y {y n Y : Nat} (hy : y ≤ 256) (hn : (n : Int) < 4) (h : Y = 2 * y + n / 2) : wrap64 (wrap64 (2 * wrap64 (y : Int)) + (n : Int) / 2) = (Y : Int) := by
  rw [w64 (x := (y : Int)) (by omega) (by omega), w2 (by omega), w64 (by omega) (by omega)]; omega
theorem means_step {a b : Nat} {l : List Pa.S44} {x y n X Y : Nat} {lo hi lo' hi' : Int} (hf : ∀ q ∈ firstS a b l x y n, lo ≤ q.f3 ∧ q.f3 ≤ hi) (hX : X = 2 * x + n % 2) (hY : Y = 2 * y + n / 2)
    (hc : ∀ q ∈ cellS a b l X Y, lo' ≤ q.f3 ∧ q.f3 ≤ hi') (h1 : lo' ≤ lo) (h2 : hi ≤ hi') : ∀ q ∈ firstS a b l x y (n + 1), lo' ≤ q.f3 ∧ q.f3 ≤ hi' := by
  intro q hq
  rw [firstS_succ, List.mem_append] at hq
  rcases hq with hq | hq
  · have := hf q hq; exact ⟨by omega, by omega⟩
  · rw [← hX, ← hY] at hq; exact hc q hq
theorem means_rd {l : List Pa.S44} {j : Nat} {q : Pa.S44} (h : l[j]? = some q) : Pa.rd_T44 l (j : Int) = q := by
  unfold Pa.rd_T44; rw [List.getD_eq_getElem?_getD, Int.toNat_natCast, h]; rfl
theorem means_idx {X Y w J : Nat} (hY : Y ≤ 256) (hX : X ≤ 256) (hw : w ≤ 256) (hJ : J = Y * w + X) : wrap64 (wrap64 ((Y : Int) * (w : Int)) + (X : Int)) = (J : Int) := by
  have h : Y * w ≤ 256 * 256 := Nat.mul_le_mul hY hw
  rw [wmul (by omega), wadd (by omega) (by omega), hJ]
theorem sides_im {i : Im} (hi : i.ok) : sidesB i.w i.h = true := by
  have h1 := hi.ha
  have h2 := hi.hb
  have h3 := hi.hz
  exact decide_eq_true ⟨by omega, by omega, by omega, by omega, by omega⟩
theorem means_new {i : Im} (hi : i.ok) {p : Pa.S44} (hp : pxB p = true) : (Im.mk i.w i.h (grid i.w i.h fun _ _ => p)).ok := by
  refine ⟨hi.ha, hi.hb, hi.hz, grid_length _ _ _, fun q hq => ?_⟩
  obtain ⟨_, _, _, _, rfl⟩ := grid_mem hq
  exact pxB_iff.1 hp
theorem neq44 (w : World) (a0 a1 a2 a3 : Int) : (binOp .neq 44 (.agg #[.int .i64 a0, .int .i64 a1, .int .i64 a2, .int .i64 a3]) (.agg #[.int .i64 a0, .int .i64 a1, .int .i64 a2, .int .i64 a3])).run Tryz.prog w = .ok (.bool false) w := by
  have hu := Tryz.underlying44
  have h3 := Tryz.underlying3
  simp only [binOp, Op.equal, Op.maxDepth]
  go_simp
/-- The place of a pixel of half. -/
theorem means_at {i : Im} {mw mh kk : Nat} (hw : mw = (i.w + 1) / 2) (hh : mh = (i.h + 1) / 2) (hk : kk < (halfS i.w i.h i.p).length) :
    ∃ x y, x < mw ∧ y < mh ∧ kk = y * mw + x ∧ (kk : Int) % (mw : Int) = (x : Int) ∧ (kk : Int) / (mw : Int) = (y : Int) ∧ (halfS i.w i.h i.p)[kk]? = some (meanS (blkS i.w i.h i.p x y)) := by
  have hl : (halfS i.w i.h i.p).length = mh * mw := by unfold halfS; rw [grid_length, ← hw, ← hh]
  rw [hl] at hk
  obtain ⟨h1, h2, h3⟩ := idx_split hk
  refine ⟨kk % mw, kk / mw, h2, h1, h3.symm, ?_, ?_, ?_⟩
  · rfl
  · rfl
  · have := grid_get (w := (i.w + 1) / 2) (h := (i.h + 1) / 2) (fun x y => meanS (blkS i.w i.h i.p x y)) (x := kk % mw) (y := kk / mw) (by rw [← hw]; exact h2) (by rw [← hh]; exact h1)
    rw [← hw, h3] at this
    unfold halfS
    rw [← hw, ← hh]
    rw [← hh] at this
    exact this

set_option maxHeartbeats 4000000 in
theorem means_a (a b : Int) (A : Option Addr) (c : Nat) (l : List Pa.S44) (p : Pa.S44) (lv : Int) (w0 : World) (k : Nat) (e : Int) (hr : Kd.C Pa.k44 w0 A l.length l) (hc : l.length ≤ c) (h : Pa.raster_Check.f k a b l = some e) (he : e ≠ 0) :
    Calls Tryz.prog 7 #[.agg #[.int .i64 a, .int .i64 b, .slice A l.length c], pv p, .int .i64 lv] w0 fun e w' => e = .returned (.bool true) ∧ Below w0.heap.size w0 w' := by
  obtain ⟨W, hW⟩ : ∃ W, W = (w0.alloc (.cells #[.int .i64 a, .int .i64 b, .slice A l.length c] 31)).alloc (.cells #[.int .i64 p.f0, .int .i64 p.f1, .int .i64 p.f2, .int .i64 p.f3] 44) := ⟨_, rfl⟩
  have hbW : Below w0.heap.size w0 W := by rw [hW]; exact (bel_alloc _ _).alloc (by simp) _
  have hi : W.heap[w0.heap.size]? = some (.cells #[.int .i64 a, .int .i64 b, .slice A l.length c] 31 (0, 0)) := by rw [hW]; exact blk_in (bel_alloc _ _) (blk_new w0 _)
  have HW := Lib.hid hW
  have HbW := Lib.hid hbW
  have Hr := Lib.hid (Kd.C_below hr hbW)
  have Hh := Lib.hid h
  have d4 : (e != 0) = true := by simp [he]
  obtain ⟨c0, c1, c2, _⟩ := blk3 hi
  have hpv : pv p = .agg #[.int .i64 p.f0, .int .i64 p.f1, .int .i64 p.f2, .int .i64 p.f3] := rfl
  rw [hpv]
  clear hW hbW hi hr h he hpv
  go_enter Tryz.func7, Tryz.ntmps7
  go_wp2_with fail
  rw [← HW.out]
  have K := Pa.raster_Check.calls k a b A c l e W Hr.out hc Hh.out
  with_reducible refine K.mono ?_
  clear K
  rintro en w1 ⟨rfl, hb⟩
  have Hb1 := Lib.hid (HbW.out.trans (hb.mono HbW.out.size))
  clear hb
  go_wp2_with fail
  have K := awake_any w1
  with_reducible refine K.mono ?_
  clear K
  rintro en w2 ⟨rfl, hb⟩
  have Hb := Lib.hid (Hb1.out.trans (hb.mono Hb1.out.size))
  clear hb
  go_wp2
  go_ret
  exact ⟨rfl, Hb.out⟩

set_option maxHeartbeats 4000000 in
theorem means_f (i : Im) (hi : i.ok) (A : Option Addr) (c : Nat) (p : Pa.S44) (lv : Int) (w0 : World) (hr : Kd.C Pa.k44 w0 A i.p.length i.p) (hc : i.p.length ≤ c) :
    Calls Tryz.prog 7 #[.agg #[.int .i64 i.w, .int .i64 i.h, .slice A i.p.length c], pv p, .int .i64 lv] w0 fun e w' => e = .returned (.bool true) ∧ Below w0.heap.size w0 w' := by
  obtain ⟨W, hW⟩ : ∃ W, W = (w0.alloc (.cells #[.int .i64 i.w, .int .i64 i.h, .slice A i.p.length c] 31)).alloc (.cells #[.int .i64 p.f0, .int .i64 p.f1, .int .i64 p.f2, .int .i64 p.f3] 44) := ⟨_, rfl⟩
  have hbW : Below w0.heap.size w0 W := by rw [hW]; exact (bel_alloc _ _).alloc (by simp) _
  have hx : W.heap[w0.heap.size]? = some (.cells #[.int .i64 i.w, .int .i64 i.h, .slice A i.p.length c] 31 (0, 0)) := by rw [hW]; exact blk_in (bel_alloc _ _) (blk_new w0 _)
  have hp : W.heap[w0.heap.size + 1]? = some (.cells #[.int .i64 p.f0, .int .i64 p.f1, .int .i64 p.f2, .int .i64 p.f3] 44 (0, 0)) := by rw [hW]; exact blk_at _ _ _ (by simp)
  obtain ⟨k, q1⟩ := (check_ev i.w i.h i.p).got
  rw [vim_chk hi] at q1
  obtain ⟨k2, q2⟩ := (Half_ev' hi).got
  obtain ⟨mw, hmw⟩ : ∃ m, m = (i.w + 1) / 2 := ⟨_, rfl⟩
  obtain ⟨mh, hmh⟩ : ∃ m, m = (i.h + 1) / 2 := ⟨_, rfl⟩
  rw [← hmw, ← hmh] at q2
  have ew : wrap64 (Int.tdiv (wrap64 ((i.w : Int) + 1)) 2) = (mw : Int) := by rw [hmw]; exact half_nat hi.ha
  have eh : wrap64 (Int.tdiv (wrap64 ((i.h : Int) + 1)) 2) = (mh : Int) := by rw [hmh]; exact half_nat hi.hb
  have el : wrap64 ((mw : Int) * (mh : Int)) = ((halfS i.w i.h i.p).length : Int) := by
    have h1 := hi.ha
    have h2 := hi.hb
    have h3 : mw * mh ≤ 128 * 128 := Nat.mul_le_mul (by omega) (by omega)
    rw [wmul (by omega)]
    unfold halfS
    rw [grid_length, ← hmw, ← hmh, Nat.mul_comm]
  have ell : (halfS i.w i.h i.p).length ≤ 65536 := vim_len (half_vim hi)
  have EW := Lib.hid ew
  have EH := Lib.hid eh
  have EL := Lib.hid el
  clear ew eh el
  have HI := Lib.hid hi
  have HW := Lib.hid hW
  have HbW := Lib.hid hbW
  have Hx := Lib.hid hx
  have Hp := Lib.hid hp
  have Hr := Lib.hid (Kd.C_below hr hbW)
  have Q1 := Lib.hid q1
  have Q2 := Lib.hid q2
  have MW := Lib.hid hmw
  have MH := Lib.hid hmh
  obtain ⟨c0, c1, c2, _⟩ := blk3 hx
  have hpv : pv p = .agg #[.int .i64 p.f0, .int .i64 p.f1, .int .i64 p.f2, .int .i64 p.f3] := rfl
  rw [hpv]
  clear hW hbW hx hp hr q1 q2 hmw hmh hpv hi
  go_enter Tryz.func7, Tryz.ntmps7
  go_wp2_with fail
  rw [← HW.out]
  have K := Pa.raster_Check.calls k i.w i.h A c i.p 0 W Hr.out hc Q1.out
  with_reducible refine K.mono ?_
  clear K
  rintro en w1 ⟨rfl, hb⟩
  have Hx1 := Lib.hid (blk_in hb Hx.out)
  have Hp1 := Lib.hid (blk_in hb Hp.out)
  have Hb1 := Lib.hid (HbW.out.trans (hb.mono HbW.out.size))
  have Hr1 := Lib.hid (Kd.C_below Hr.out hb)
  clear hb c0 c1 c2
  obtain ⟨c0, c1, c2, _⟩ := blk3 Hx1.out
  go_wp2_with fail
  have K := Pa.pyramid_Half.calls k2 i.w i.h A c i.p mw mh (halfS i.w i.h i.p) 0 w1 Hr1.out hc Q2.out
  with_reducible refine K.mono ?_
  clear K
  rintro en w2 ⟨v2, rfl, hv2, hb⟩
  obtain ⟨A2, cc2, rfl, hcc2, hC2⟩ := Kd.R_reads hv2
  have Hx2 := Lib.hid (blk_in hb Hx1.out)
  have Hp2 := Lib.hid (blk_in hb Hp1.out)
  have Hb2 := Lib.hid (Hb1.out.trans (hb.mono Hb1.out.size))
  have HC2 := Lib.hid hC2
  have Hr2 := Lib.hid (Kd.C_below Hr1.out hb)
  clear hb hC2 hv2 c0 c1 c2
  have hbx := bel_alloc w2 (.cells #[.int .i64 mw, .int .i64 mh, .slice A2 (halfS i.w i.h i.p).length cc2] 31)
  have hy3 : (w2.alloc (.cells #[.int .i64 mw, .int .i64 mh, .slice A2 (halfS i.w i.h i.p).length cc2] 31)).heap[w2.heap.size]? = some (.cells #[.int .i64 mw, .int .i64 mh, .slice A2 (halfS i.w i.h i.p).length cc2] 31 (0, 0)) := blk_new w2 _
  obtain ⟨w3, hw3⟩ : ∃ w3, w3 = w2.alloc (.cells #[.int .i64 mw, .int .i64 mh, .slice A2 (halfS i.w i.h i.p).length cc2] 31) := ⟨_, rfl⟩
  rw [← hw3] at hbx hy3
  have HW3 := Lib.hid hw3
  have Hx3 := Lib.hid (blk_in hbx Hx2.out)
  have Hp3 := Lib.hid (blk_in hbx Hp2.out)
  have Hy3 := Lib.hid hy3
  have Hb3 := Lib.hid (Hb2.out.trans (hbx.mono Hb2.out.size))
  have HC3 := Lib.hid (Kd.C_below HC2.out hbx)
  have Hr3 := Lib.hid (Kd.C_below Hr2.out hbx)
  obtain ⟨c0, c1, c2, _⟩ := blk3 Hx3.out
  obtain ⟨y0, y1, y2, _⟩ := blk3 Hy3.out
  rw [hw3] at c0 c1 c2 y0 y1 y2
  clear hbx hy3 hw3
  go_wp2_with fail
  rw [← HW3.out]
  clear c0 c1 c2 y0 y1 y2
  obtain ⟨c0, c1, c2, _⟩ := blk3 Hx3.out
  go_quiet (fail)
  rw [EW.out, EH.out]
  have hb4 : Below w3.heap.size w3 (w3.drewN nq) := pw_below_drewN (Below.refl _ _) nq
  have Hb4 := Lib.hid hb4
  clear c0 c1 c2
  obtain ⟨c0, c1, c2, _⟩ := blk3 (blk_in hb4 Hx3.out)
  obtain ⟨y0, y1, y2, _⟩ := blk3 (blk_in hb4 Hy3.out)
  have el := EL.out
  clear hb4
  go_wp2_with fail
  clear c0 c1 c2 y0 y1 y2 el
  go_loopw [66] (fun v66 wr => ∃ (kk : Nat), kk ≤ (halfS i.w i.h i.p).length ∧ v66 = .int .i64 kk ∧ Below w3.heap.size w3 wr) (fun v _ => (halfS i.w i.h i.p).length - (intOf v).toNat)
  case atStart => exact ⟨0, Nat.zero_le _, rfl, Hb4.out⟩
  case round =>
    obtain ⟨kk, hkk, rfl, hb⟩ := hrel
    have GB := Lib.hid hb
    clear hb
    by_cases hlt : kk < (halfS i.w i.h i.p).length
    · obtain ⟨x, y, hx, hy, hk, tm, td, hg⟩ := means_at MW.out MH.out hlt
      have hkl : (kk : Int) < ((halfS i.w i.h i.p).length : Int) := Int.ofNat_lt.2 hlt
      have hm0 : 0 < mw := Nat.lt_of_le_of_lt (Nat.zero_le _) hx
      have TM := Lib.hid tm
      have TD := Lib.hid td
      have HG := Lib.hid hg
      have HK := Lib.hid hk
      have HXY := Lib.hid (show x < mw ∧ y < mh from ⟨hx, hy⟩)
      have hxs : x ≤ 256 ∧ y ≤ 256 := by
        have h1 := HI.out.ha
        have h2 := HI.out.hb
        have h3 := MW.out
        have h4 := MH.out
        omega
      have HS := Lib.hid hxs
      clear tm td hg hk hx hy hxs
      go_wp2_with fail
      go_loopw [69, 12, 13] (fun v69 v12 v13 wr => ∃ (n : Nat) (lo hi : Int), n ≤ 4 ∧ v69 = .int .i64 n ∧ v12 = .int .i64 lo ∧ v13 = .int .i64 hi ∧ (∀ q ∈ firstS i.w i.h i.p x y n, lo ≤ q.f3 ∧ q.f3 ≤ hi) ∧ Below w3.heap.size w3 wr) (fun v _ _ _ => 4 - (intOf v).toNat)
      case atStart => exact ⟨0, 65535, 0, by omega, rfl, rfl, rfl, fun q hq => absurd hq (by simp [firstS]), GB.out⟩
      case round =>
        obtain ⟨n, lo, hi, hn, rfl, rfl, rfl, hf, hb⟩ := hrel
        have FB := Lib.hid hb
        have FF := Lib.hid hf
        clear hb hf
        by_cases hn4 : n < 4
        · have hnl : (n : Int) < 4 := by omega
          go_wp2_with fail
          go_quiet (fail)
          obtain ⟨X, hX⟩ : ∃ X, X = 2 * x + n % 2 := ⟨_, rfl⟩
          obtain ⟨Y, hY⟩ : ∃ Y, Y = 2 * y + n / 2 := ⟨_, rfl⟩
          have e15 : wrap64 (wrap64 (2 * ((kk : Int) % (mw : Int))) + (n : Int) % 2) = (X : Int) := by rw [TM.out]; exact means_x HS.out.1 hX
          have e16 : wrap64 (wrap64 (2 * wrap64 ((kk : Int) / (mw : Int))) + (n : Int) / 2) = (Y : Int) := by rw [TD.out]; exact means_y HS.out.2 hnl hY
          rw [e15, e16]
          have hb5 : Below w3.heap.size w3 (wr.drewN nq) := FB.out.trans (pw_below_drewN (Below.mono (Below.refl _ _) FB.out.size) nq)
          have FB5 := Lib.hid hb5
          obtain ⟨w5, hw5⟩ : ∃ w5, w5 = wr.drewN nq := ⟨_, rfl⟩
          rw [← hw5] at FB5
          rw [← hw5]
          clear hb5 e15 e16 hw5
          obtain ⟨c0, c1, c2, _⟩ := blk3 (blk_in FB5.out Hx3.out)
          have HX := Lib.hid hX
          have HY := Lib.hid hY
          clear hX hY
          by_cases h1 : X < i.w
          · have h1' : (X : Int) < (i.w : Int) := Int.ofNat_lt.2 h1
            by_cases h2 : Y < i.h
            · have h2' : (Y : Int) < (i.h : Int) := Int.ofNat_lt.2 h2
              obtain ⟨q, hq, hcell⟩ := cell_one HI.out.len h1 h2
              obtain ⟨J, hJ⟩ : ∃ J, J = Y * i.w + X := ⟨_, rfl⟩
              have hJl : J < i.p.length := by rw [hJ]; exact (List.getElem?_eq_some_iff.1 hq).1
              have hJl' : (J : Int) < (i.p.length : Int) := Int.ofNat_lt.2 hJl
              obtain ⟨ad, hA, z0, z1, z2, z3⟩ := Pa.at_T44 (Kd.C_below Hr3.out FB5.out) (J : Int) (Int.natCast_nonneg _) hJl'
              have er : Pa.rd_T44 i.p (J : Int) = q := means_rd (by rw [hJ]; exact hq)
              rw [er, Int.toNat_natCast] at z3
              have ei := means_idx (Nat.le_trans (Nat.le_of_lt h2) HI.out.hb) (Nat.le_trans (Nat.le_of_lt h1) HI.out.ha) HI.out.ha hJ
              have HC := Lib.hid hcell
              rw [hA] at c2
              clear z0 z1 z2 er hq hJ hJl hcell
              by_cases hlo : q.f3 < lo
              · by_cases hhi : hi < q.f3
                · go_wp2_with fail
                  clear ei
                  go_roundw
                  case rel => exact ⟨n + 1, q.f3, q.f3, hn4, by go_num, rfl, rfl, means_step FF.out HX.out HY.out (by rw [HC.out]; intro r hr; obtain rfl := List.mem_singleton.1 hr; exact ⟨Int.le_refl _, Int.le_refl _⟩) (Int.le_of_lt hlo) (Int.le_of_lt hhi), FB5.out⟩
                  case measure => simp [intOf]; omega
                · go_wp2_with fail
                  clear ei
                  go_roundw
                  case rel => exact ⟨n + 1, q.f3, hi, hn4, by go_num, rfl, rfl, means_step FF.out HX.out HY.out (by rw [HC.out]; intro r hr; obtain rfl := List.mem_singleton.1 hr; exact ⟨Int.le_refl _, Int.not_lt.1 hhi⟩) (Int.le_of_lt hlo) (Int.le_refl _), FB5.out⟩
                  case measure => simp [intOf]; omega
              · by_cases hhi : hi < q.f3
                · go_wp2_with fail
                  clear ei
                  go_roundw
                  case rel => exact ⟨n + 1, lo, q.f3, hn4, by go_num, rfl, rfl, means_step FF.out HX.out HY.out (by rw [HC.out]; intro r hr; obtain rfl := List.mem_singleton.1 hr; exact ⟨Int.not_lt.1 hlo, Int.le_refl _⟩) (Int.le_refl _) (Int.le_of_lt hhi), FB5.out⟩
                  case measure => simp [intOf]; omega
                · go_wp2_with fail
                  clear ei
                  go_roundw
                  case rel => exact ⟨n + 1, lo, hi, hn4, by go_num, rfl, rfl, means_step FF.out HX.out HY.out (by rw [HC.out]; intro r hr; obtain rfl := List.mem_singleton.1 hr; exact ⟨Int.not_lt.1 hlo, Int.not_lt.1 hhi⟩) (Int.le_refl _) (Int.le_refl _), FB5.out⟩
                  case measure => simp [intOf]; omega
            · have h2' : (i.h : Int) ≤ (Y : Int) := Int.ofNat_le.2 (Nat.le_of_not_lt h2)
              go_wp2_with fail
              go_roundw
              case rel => exact ⟨n + 1, lo, hi, hn4, by go_num, rfl, rfl, means_step FF.out HX.out HY.out (fun r hr => absurd hr (by unfold cellS; rw [if_neg (fun h => h2 h.2)]; simp)) (Int.le_refl _) (Int.le_refl _), FB5.out⟩
              case measure => simp [intOf]; omega
          · have h1' : (i.w : Int) ≤ (X : Int) := Int.ofNat_le.2 (Nat.le_of_not_lt h1)
            go_wp2_with fail
            go_roundw
            case rel => exact ⟨n + 1, lo, hi, hn4, by go_num, rfl, rfl, means_step FF.out HX.out HY.out (fun r hr => absurd hr (by unfold cellS; rw [if_neg (fun h => h1 h.1)]; simp)) (Int.le_refl _) (Int.le_refl _), FB5.out⟩
            case measure => simp [intOf]; omega
        · obtain rfl : n = 4 := by omega
          obtain ⟨a1, a2⟩ := alpha_in (by rw [firstS_four]; exact blk_pos HI.out.len (MW.out ▸ HXY.out.1) (MH.out ▸ HXY.out.2)) FF.out
          rw [firstS_four] at a1 a2
          obtain ⟨ad, hA, z0, z1, z2, z3⟩ := Pa.at_T44 (Kd.C_below HC3.out FB.out) (kk : Int) (Int.natCast_nonneg _) hkl
          have er : Pa.rd_T44 (halfS i.w i.h i.p) (kk : Int) = meanS (blkS i.w i.h i.p x y) := means_rd HG.out
          rw [er, Int.toNat_natCast] at z3
          have b1 : ¬ (meanS (blkS i.w i.h i.p x y)).f3 < lo := Int.not_lt.2 a1
          have b2 : ¬ hi < (meanS (blkS i.w i.h i.p x y)).f3 := Int.not_lt.2 a2
          obtain ⟨y0, y1, y2, _⟩ := blk3 (blk_in FB.out Hy3.out)
          rw [hA] at y2
          clear z0 z1 z2 er a1 a2
          go_wp2_with fail
          go_roundw
          case rel => exact ⟨kk + 1, hlt, by go_num, FB.out⟩
          case measure => simp [intOf]; omega
    · obtain rfl : kk = (halfS i.w i.h i.p).length := Nat.le_antisymm hkk (Nat.le_of_not_lt hlt)
      obtain ⟨c0, c1, c2, _⟩ := blk3 (blk_in GB.out Hx3.out)
      obtain ⟨p0, p1, p2, p3⟩ := blk4 (blk_in GB.out Hp3.out)
      have hpv : pv p = .agg #[.int .i64 p.f0, .int .i64 p.f1, .int .i64 p.f2, .int .i64 p.f3] := rfl
      go_wp2_with fail
      have hsd := sides_im HI.out
      by_cases hp : pxB p = true
      · have K := new_ok i.w i.h HI.out.ha HI.out.hb hsd p hp wr
        rw [hpv] at K
        with_reducible refine K.mono ?_
        clear K
        rintro en w7 ⟨v7, rfl, hv7, hb⟩
        obtain ⟨A7, cc7, rfl, hcc7, hC7⟩ := Kd.R_reads hv7
        have hiu := means_new HI.out hp
        obtain ⟨iu, hiu'⟩ : ∃ j : Im, j = ⟨i.w, i.h, grid i.w i.h fun _ _ => p⟩ := ⟨_, rfl⟩
        rw [← hiu'] at hiu
        have hup : iu.p = grid i.w i.h fun _ _ => p := by rw [hiu']
        have huw : iu.w = i.w := by rw [hiu']
        have huh : iu.h = i.h := by rw [hiu']
        rw [← hup] at hC7 hcc7
        rw [← hup]
        have GB7 := Lib.hid (GB.out.trans (hb.mono GB.out.size))
        have hbx := bel_alloc w7 (.cells #[.int .i64 i.w, .int .i64 i.h, .slice A7 iu.p.length cc7] 31)
        have hu8 : (w7.alloc (.cells #[.int .i64 i.w, .int .i64 i.h, .slice A7 iu.p.length cc7] 31)).heap[w7.heap.size]? = some (.cells #[.int .i64 i.w, .int .i64 i.h, .slice A7 iu.p.length cc7] 31 (0, 0)) := blk_new w7 _
        obtain ⟨w8, hw8⟩ : ∃ w8, w8 = w7.alloc (.cells #[.int .i64 i.w, .int .i64 i.h, .slice A7 iu.p.length cc7] 31) := ⟨_, rfl⟩
        rw [← hw8] at hbx hu8
        have HW8 := Lib.hid hw8
        have HU8 := Lib.hid hu8
        have GB8 := Lib.hid (GB7.out.trans (hbx.mono GB7.out.size))
        have HC8 := Lib.hid (Kd.C_below hC7 hbx)
        have HIU := Lib.hid hiu
        have HUP := Lib.hid hup
        have HUW := Lib.hid huw
        have HUH := Lib.hid huh
        clear hb hbx hu8 hv7 hC7 hiu hiu' hup huw huh c0 c1 c2 p0 p1 p2 p3 hsd
        obtain ⟨p0, p1, p2, p3⟩ := blk4 (blk_in GB8.out Hp3.out)
        rw [hw8] at p0 p1 p2 p3
        clear hw8
        by_cases ha : p.f3 = 0
        · have ha' : (p.f3 == 0) = true := by simp [ha]
          go_wp2_with fail
          rw [← HW8.out]
          have K := awake_any w8
          with_reducible refine K.mono ?_
          clear K
          rintro en w9 ⟨rfl, hb⟩
          have GB9 := Lib.hid (Hb3.out.trans ((GB8.out.trans (hb.mono GB8.out.size)).mono Hb3.out.size))
          clear hb
          go_wp2
          go_ret
          exact ⟨rfl, GB9.out⟩
        have ha' : (p.f3 == 0) = false := by simp [ha]
        by_cases hl0 : lv < 0
        · have hl0' : decide (lv < 0) = true := decide_eq_true hl0
          go_wp2_with fail
          rw [← HW8.out]
          have K := awake_any w8
          with_reducible refine K.mono ?_
          clear K
          rintro en w9 ⟨rfl, hb⟩
          have GB9 := Lib.hid (Hb3.out.trans ((GB8.out.trans (hb.mono GB8.out.size)).mono Hb3.out.size))
          clear hb
          go_wp2
          go_ret
          exact ⟨rfl, GB9.out⟩
        have hl0' : decide (lv < 0) = false := decide_eq_false hl0
        by_cases hl4 : 4 < lv
        · have hl4' : decide (lv > 4) = true := decide_eq_true hl4
          go_wp2_with fail
          rw [← HW8.out]
          have K := awake_any w8
          with_reducible refine K.mono ?_
          clear K
          rintro en w9 ⟨rfl, hb⟩
          have GB9 := Lib.hid (Hb3.out.trans ((GB8.out.trans (hb.mono GB8.out.size)).mono Hb3.out.size))
          clear hb
          go_wp2
          go_ret
          exact ⟨rfl, GB9.out⟩
        have hl4' : decide (lv > 4) = false := decide_eq_false hl4
        obtain ⟨n, rfl⟩ := Int.eq_ofNat_of_zero_le (Int.not_lt.1 hl0)
        have hn4 : n ≤ 4 := Int.ofNat_le.1 (Int.not_lt.1 hl4)
        obtain ⟨k3, hk3⟩ := Ev.both (check_ev iu.w iu.h iu.p) (red_ev HIU.out n)
        obtain ⟨r1, r2⟩ := hk3 k3 (Nat.le_refl _)
        rw [vim_chk HIU.out] at r1
        have hsame := redS_same (p := p) HIU.out (by rw [HUP.out]; intro q hq; obtain ⟨_, _, _, _, e⟩ := grid_mem hq; exact e) (pxB_iff.1 hp) ha n
        have hpos : 0 < i.p.length → 0 < (redS n iu).p.length := fun h0 => redS_pos HIU.out (by rw [HUP.out, grid_length, ← HI.out.len]; exact h0) n
        have hzl := im_len (redS_ok HIU.out n)
        obtain ⟨⟨zw, zh, zp⟩, hz⟩ : ∃ j, j = redS n iu := ⟨_, rfl⟩
        rw [← hz] at r2 hsame hpos hzl
        dsimp only at r2 hsame hpos hzl
        rw [HUW.out, HUH.out] at r1 r2
        have R1 := Lib.hid r1
        have R2 := Lib.hid r2
        have SM := Lib.hid hsame
        have PS := Lib.hid hpos
        have hull := im_len HIU.out
        clear hk3 r1 r2 hsame hpos hz
        go_wp2_with fail
        rw [← HW8.out]
        have K := reduce_ok k3 i.w i.h A7 cc7 iu.p n zw zh zp w8 HC8.out hcc7 R1.out (lev_nat hn4) (Nat.le_trans hull (by decide)) hn4 R2.out
        with_reducible refine K.mono ?_
        clear K
        rintro en w9 ⟨v9, rfl, hv9, hb⟩
        obtain ⟨A9, cc9, rfl, hcc9, hC9⟩ := Kd.R_reads hv9
        have GB9 := Lib.hid (GB8.out.trans (hb.mono GB8.out.size))
        have hbx := bel_alloc w9 (.cells #[.int .i64 zw, .int .i64 zh, .slice A9 zp.length cc9] 31)
        have hu10 : (w9.alloc (.cells #[.int .i64 zw, .int .i64 zh, .slice A9 zp.length cc9] 31)).heap[w9.heap.size]? = some (.cells #[.int .i64 zw, .int .i64 zh, .slice A9 zp.length cc9] 31 (0, 0)) := blk_new w9 _
        obtain ⟨w10, hw10⟩ : ∃ w10, w10 = w9.alloc (.cells #[.int .i64 zw, .int .i64 zh, .slice A9 zp.length cc9] 31) := ⟨_, rfl⟩
        rw [← hw10] at hbx hu10
        have HW10 := Lib.hid hw10
        have HU10 := Lib.hid hu10
        have GB10 := Lib.hid (GB9.out.trans (hbx.mono GB9.out.size))
        have HC10 := Lib.hid (Kd.C_below hC9 hbx)
        clear hb hbx hu10 hv9 hC9 p0 p1 p2 p3 hull
        obtain ⟨u0, u1, u2, _⟩ := blk3 HU10.out
        rw [hw10] at u0 u1 u2
        clear hw10
        go_wp2_with fail
        rw [← HW10.out]
        clear u0 u1 u2
        go_loopw [169] (fun v169 wr => ∃ (kk : Nat), kk ≤ zp.length ∧ v169 = .int .i64 kk ∧ Below w10.heap.size w10 wr) (fun v _ => zp.length - (intOf v).toNat)
        case atStart => exact ⟨0, Nat.zero_le _, rfl, Below.refl _ _⟩
        case round =>
          obtain ⟨kk, hkk, rfl, hb⟩ := hrel
          have FB := Lib.hid hb
          clear hb
          obtain ⟨u0, u1, u2, _⟩ := blk3 (blk_in FB.out HU10.out)
          by_cases hlt : kk < zp.length
          · have hkl : (kk : Int) < (zp.length : Int) := Int.ofNat_lt.2 hlt
            obtain ⟨ad, hA, z0, z1, z2, z3⟩ := Pa.at_T44 (Kd.C_below HC10.out FB.out) (kk : Int) (Int.natCast_nonneg _) hkl
            have er : Pa.rd_T44 zp (kk : Int) = p := means_rd (by rw [List.getElem?_eq_getElem hlt]; exact congrArg some (SM.out _ (List.getElem_mem hlt)))
            rw [er, Int.toNat_natCast] at z0 z1 z2 z3
            rw [hA] at u2
            obtain ⟨p0, p1, p2, p3⟩ := blk4 (blk_in FB.out (blk_in GB10.out Hp3.out))
            have q44 := neq44
            go_wp2_with fail
            go_quiet (fail)
            have hb5 : Below w10.heap.size w10 (wr.drewN nq) := FB.out.trans (pw_below_drewN (Below.mono (Below.refl _ _) FB.out.size) nq)
            have FB5 := Lib.hid hb5
            clear hb5 z0 z1 z2 z3 p0 p1 p2 p3 u0 u1 u2 er
            go_wp2_with fail
            go_roundw
            case rel => exact ⟨kk + 1, hlt, by go_num, FB5.out⟩
            case measure => simp [intOf]; omega
          · obtain rfl : kk = zp.length := Nat.le_antisymm hkk (Nat.le_of_not_lt hlt)
            obtain ⟨c0, c1, c2, _⟩ := blk3 (blk_in FB.out (blk_in GB10.out Hx3.out))
            by_cases h0 : 0 < zp.length
            · have h0' : decide ((zp.length : Int) > 0) = true := decide_eq_true (Int.ofNat_lt.2 h0)
              go_wp2_with fail
              have K := awake_any wr
              with_reducible refine K.mono ?_
              clear K
              rintro en w12 ⟨rfl, hb⟩
              have FB12 := Lib.hid (Hb3.out.trans ((GB10.out.trans ((FB.out.trans (hb.mono FB.out.size)).mono GB10.out.size)).mono Hb3.out.size))
              clear hb
              go_wp2
              go_ret
              exact ⟨rfl, FB12.out⟩
            · have h0' : decide ((zp.length : Int) > 0) = false := decide_eq_false (fun h => h0 (Int.ofNat_lt.1 h))
              have h1 : i.p.length = 0 := Nat.eq_zero_of_not_pos (fun h => h0 (PS.out h))
              have h1' : ((i.p.length : Int) == 0) = true := by rw [h1]; rfl
              go_wp2_with fail
              have K := awake_any wr
              with_reducible refine K.mono ?_
              clear K
              rintro en w12 ⟨rfl, hb⟩
              have FB12 := Lib.hid (Hb3.out.trans ((GB10.out.trans ((FB.out.trans (hb.mono FB.out.size)).mono GB10.out.size)).mono Hb3.out.size))
              clear hb
              go_wp2
              go_ret
              exact ⟨rfl, FB12.out⟩
      · have hp' : pxB p = false := by simpa using hp
        have K := new_bad i.w i.h hsd p hp' wr
        rw [hpv] at K
        with_reducible refine K.mono ?_
        clear K
        rintro en w7 ⟨rfl, hb⟩
        have GB7 := Lib.hid (GB.out.trans (hb.mono GB.out.size))
        clear hb c0 c1 c2 p0 p1 p2 p3
        go_wp2_with fail
        have hb8 := bel_alloc w7 (.cells #[.int .i64 0, .int .i64 0, .slice none 0 0] 31)
        have K := awake_any (w7.alloc (.cells #[.int .i64 0, .int .i64 0, .slice none 0 0] 31))
        with_reducible refine K.mono ?_
        clear K
        rintro en w9 ⟨rfl, hb⟩
        have GB9 := Lib.hid (Hb3.out.trans ((GB7.out.trans ((hb8.trans (hb.mono hb8.size)).mono GB7.out.size)).mono Hb3.out.size))
        clear hb hb8
        go_wp2
        go_ret
        exact ⟨rfl, GB9.out⟩
theorem means_walk (a b : Int) (A : Option Addr) (c : Nat) (l : List Pa.S44) (p0 p1 p2 p3 lv : Int) (w0 : World) (hr : Kd.C Pa.k44 w0 A l.length l) (hc : l.length ≤ c) :
    Calls Tryz.prog 7 #[.agg #[.int .i64 a, .int .i64 b, .slice A l.length c], .agg #[.int .i64 p0, .int .i64 p1, .int .i64 p2, .int .i64 p3], .int .i64 lv] w0 fun e w' => e = .returned (.bool true) ∧ Below w0.heap.size w0 w' := by
  by_cases h : chk a b l = 0
  · obtain ⟨x, y, rfl, rfl, hv⟩ := chk_vim h
    exact means_f ⟨x, y, l⟩ hv A c ⟨p0, p1, p2, p3⟩ lv w0 hr hc
  · obtain ⟨k, hk⟩ := (check_ev a b l).got
    exact means_a a b A c l ⟨p0, p1, p2, p3⟩ lv w0 k _ hr hc hk h
end Go.Proofs.YtkchkfmggbejfaaGreatDoor
