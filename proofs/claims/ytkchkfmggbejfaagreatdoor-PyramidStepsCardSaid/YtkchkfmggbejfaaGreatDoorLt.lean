/- The law PyramidSteps walked. Printed by lt.py. -/
import Derived.Test.YtkchkfmggbejfaaGreatDoorAw
import Derived.Test.YtkchkfmggbejfaaGreatDoorSf
import Derived.Test.YtkchkfmggbejfaaGreatDoorOi
namespace Go.Proofs.YtkchkfmggbejfaaGreatDoor
open Go.RowKit Go.Proofs.YtkchkfmggbejfaaGreatDoorW.PrintWords Go.Proofs.YtkchkfmggbejfaaGreatDoorW.PrintMore
set_option linter.unusedSimpArgs false
set_option maxRecDepth 20000

theorem lt_sum {n m : Nat} (h : n + m ≤ 4) : wrap64 ((n : Int) + (m : Int)) = ((n + m : Nat) : Int) := by rw [w64 (by omega) (by omega)]; omega
theorem lt_not (n : Nat) : decide ((n : Int) < 0) = false := decide_eq_false (by omega)
theorem lt_not4 {n : Nat} (h : n ≤ 4) : decide ((n : Int) > 4) = false := decide_eq_false (by omega)
theorem lt_not5 {n m : Nat} (h : n + m ≤ 4) : decide ((m : Int) > wrap64 (4 - n)) = false := decide_eq_false (by rw [w64 (by omega) (by omega)]; omega)
set_option maxHeartbeats 4000000 in
theorem steps_a (a b : Int) (A : Option Addr) (c : Nat) (l : List Pa.S44) (n m : Int) (w0 : World) (h : n < 0) :
    Calls Tryz.prog 5 #[.agg #[.int .i64 a, .int .i64 b, .slice A l.length c], .int .i64 n, .int .i64 m] w0 fun e w' => e = .returned (.bool true) ∧ Below w0.heap.size w0 w' := by
  have hbW : Below w0.heap.size w0 (w0.alloc (.cells #[.int .i64 a, .int .i64 b, .slice A l.length c] 31)) := bel_alloc _ _
  have HbW := Lib.hid hbW
  have d0 : decide (n < 0) = true := decide_eq_true h
  clear h
  clear hbW
  go_enter Tryz.func5, Tryz.ntmps5
  go_wp2_with fail
  have K := awake_any (w0.alloc (.cells #[.int .i64 a, .int .i64 b, .slice A l.length c] 31))
  with_reducible refine K.mono ?_
  clear K
  rintro en w1 ⟨rfl, hb⟩
  have Hb := Lib.hid (HbW.out.trans (hb.mono HbW.out.size))
  clear hb
  go_wp2
  go_ret
  exact ⟨rfl, Hb.out⟩
set_option maxHeartbeats 4000000 in
theorem steps_b (a b : Int) (A : Option Addr) (c : Nat) (l : List Pa.S44) (n m : Int) (w0 : World) (h0 : 0 ≤ n) (h1 : m < 0) :
    Calls Tryz.prog 5 #[.agg #[.int .i64 a, .int .i64 b, .slice A l.length c], .int .i64 n, .int .i64 m] w0 fun e w' => e = .returned (.bool true) ∧ Below w0.heap.size w0 w' := by
  have hbW : Below w0.heap.size w0 (w0.alloc (.cells #[.int .i64 a, .int .i64 b, .slice A l.length c] 31)) := bel_alloc _ _
  have HbW := Lib.hid hbW
  have d0 : decide (n < 0) = false := decide_eq_false (by omega)
  have d1 : decide (m < 0) = true := decide_eq_true h1
  clear h0 h1
  clear hbW
  go_enter Tryz.func5, Tryz.ntmps5
  go_wp2_with fail
  have K := awake_any (w0.alloc (.cells #[.int .i64 a, .int .i64 b, .slice A l.length c] 31))
  with_reducible refine K.mono ?_
  clear K
  rintro en w1 ⟨rfl, hb⟩
  have Hb := Lib.hid (HbW.out.trans (hb.mono HbW.out.size))
  clear hb
  go_wp2
  go_ret
  exact ⟨rfl, Hb.out⟩
set_option maxHeartbeats 4000000 in
theorem steps_c (a b : Int) (A : Option Addr) (c : Nat) (l : List Pa.S44) (n m : Int) (w0 : World) (h1 : 0 ≤ m) (h2 : 4 < n) :
    Calls Tryz.prog 5 #[.agg #[.int .i64 a, .int .i64 b, .slice A l.length c], .int .i64 n, .int .i64 m] w0 fun e w' => e = .returned (.bool true) ∧ Below w0.heap.size w0 w' := by
  have hbW : Below w0.heap.size w0 (w0.alloc (.cells #[.int .i64 a, .int .i64 b, .slice A l.length c] 31)) := bel_alloc _ _
  have HbW := Lib.hid hbW
  have d0 : decide (n < 0) = false := decide_eq_false (by omega)
  have d1 : decide (m < 0) = false := decide_eq_false (by omega)
  have d2 : decide (n > 4) = true := decide_eq_true h2
  clear h1 h2
  clear hbW
  go_enter Tryz.func5, Tryz.ntmps5
  go_wp2_with fail
  have K := awake_any (w0.alloc (.cells #[.int .i64 a, .int .i64 b, .slice A l.length c] 31))
  with_reducible refine K.mono ?_
  clear K
  rintro en w1 ⟨rfl, hb⟩
  have Hb := Lib.hid (HbW.out.trans (hb.mono HbW.out.size))
  clear hb
  go_wp2
  go_ret
  exact ⟨rfl, Hb.out⟩
set_option maxHeartbeats 4000000 in
theorem steps_d (a b : Int) (A : Option Addr) (c : Nat) (l : List Pa.S44) (n m : Int) (w0 : World) (h0 : 0 ≤ n) (h1 : 0 ≤ m) (h2 : n ≤ 4) (h3 : 4 - n < m) :
    Calls Tryz.prog 5 #[.agg #[.int .i64 a, .int .i64 b, .slice A l.length c], .int .i64 n, .int .i64 m] w0 fun e w' => e = .returned (.bool true) ∧ Below w0.heap.size w0 w' := by
  have hbW : Below w0.heap.size w0 (w0.alloc (.cells #[.int .i64 a, .int .i64 b, .slice A l.length c] 31)) := bel_alloc _ _
  have HbW := Lib.hid hbW
  have d0 : decide (n < 0) = false := decide_eq_false (by omega)
  have d1 : decide (m < 0) = false := decide_eq_false (by omega)
  have d2 : decide (n > 4) = false := decide_eq_false (by omega)
  have d3 : decide (m > wrap64 (4 - n)) = true := decide_eq_true (by rw [w64 (by omega) (by omega)]; omega)
  clear h0 h1 h2 h3
  clear hbW
  go_enter Tryz.func5, Tryz.ntmps5
  go_wp2_with fail
  have K := awake_any (w0.alloc (.cells #[.int .i64 a, .int .i64 b, .slice A l.length c] 31))
  with_reducible refine K.mono ?_
  clear K
  rintro en w1 ⟨rfl, hb⟩
  have Hb := Lib.hid (HbW.out.trans (hb.mono HbW.out.size))
  clear hb
  go_wp2
  go_ret
  exact ⟨rfl, Hb.out⟩
set_option maxHeartbeats 4000000 in
theorem steps_e (a b : Int) (A : Option Addr) (c : Nat) (l : List Pa.S44) (n m : Int) (w0 : World) (h0 : 0 ≤ n) (h1 : 0 ≤ m) (h2 : n ≤ 4) (h3 : m ≤ 4 - n) (k : Nat) (e : Int) (hr : Kd.C Pa.k44 w0 A l.length l) (hc : l.length ≤ c) (h : Pa.raster_Check.f k a b l = some e) (he : e ≠ 0) :
    Calls Tryz.prog 5 #[.agg #[.int .i64 a, .int .i64 b, .slice A l.length c], .int .i64 n, .int .i64 m] w0 fun e w' => e = .returned (.bool true) ∧ Below w0.heap.size w0 w' := by
  obtain ⟨W, hW⟩ : ∃ W, W = (w0.alloc (.cells #[.int .i64 a, .int .i64 b, .slice A l.length c] 31)) := ⟨_, rfl⟩
  have hbW : Below w0.heap.size w0 W := by rw [hW]; exact bel_alloc _ _
  have hi : W.heap[w0.heap.size]? = some (.cells #[.int .i64 a, .int .i64 b, .slice A l.length c] 31 (0, 0)) := by rw [hW]; exact blk_new w0 _
  have HW := Lib.hid hW
  have HbW := Lib.hid hbW
  have Hr := Lib.hid (Kd.C_below hr hbW)
  have Hh := Lib.hid h
  have d0 : decide (n < 0) = false := decide_eq_false (by omega)
  have d1 : decide (m < 0) = false := decide_eq_false (by omega)
  have d2 : decide (n > 4) = false := decide_eq_false (by omega)
  have d3 : decide (m > wrap64 (4 - n)) = false := decide_eq_false (by rw [w64 (by omega) (by omega)]; omega)
  have d4 : (e != 0) = true := by simp [he]
  obtain ⟨c0, c1, c2, _⟩ := blk3 hi
  clear hW hbW hi hr h h0 h1 h2 h3 he
  go_enter Tryz.func5, Tryz.ntmps5
  go_wp2_with fail
  rw [← HW.out]
  have K := Pa.raster_Check.calls k a b A c l e W Hr.out hc Hh.out
  with_reducible refine K.mono ?_
  clear K
  rintro en w1 ⟨rfl, hb⟩
  have Hb1 := Lib.hid (HbW.out.trans (hb.mono HbW.out.size))
  clear hb
  go_wp2_with fail
  have K := awake_any w1
  with_reducible refine K.mono ?_
  clear K
  rintro en w2 ⟨rfl, hb⟩
  have Hb := Lib.hid (Hb1.out.trans (hb.mono Hb1.out.size))
  clear hb
  go_wp2
  go_ret
  exact ⟨rfl, Hb.out⟩
set_option maxHeartbeats 4000000 in
theorem steps_f (i : Im) (hi : i.ok) (A : Option Addr) (c : Nat) (n m : Nat) (w0 : World) (h4 : n + m ≤ 4) (hr : Kd.C Pa.k44 w0 A i.p.length i.p) (hc : i.p.length ≤ c) :
    Calls Tryz.prog 5 #[.agg #[.int .i64 i.w, .int .i64 i.h, .slice A i.p.length c], .int .i64 n, .int .i64 m] w0 fun e w' => e = .returned (.bool true) ∧ Below w0.heap.size w0 w' := by
  obtain ⟨W, hW⟩ : ∃ W, W = w0.alloc (.cells #[.int .i64 i.w, .int .i64 i.h, .slice A i.p.length c] 31) := ⟨_, rfl⟩
  have hbW : Below w0.heap.size w0 W := by rw [hW]; exact bel_alloc _ _
  have hx : W.heap[w0.heap.size]? = some (.cells #[.int .i64 i.w, .int .i64 i.h, .slice A i.p.length c] 31 (0, 0)) := by rw [hW]; exact blk_new w0 _
  have hn4 : n ≤ 4 := Nat.le_trans (Nat.le_add_right n m) h4
  have hm4 : m ≤ 4 := Nat.le_trans (Nat.le_add_left m n) h4
  obtain ⟨k, q1, q2, p1, p2, p3⟩ := steps_facts hi n m
  obtain ⟨ks, hs⟩ := same_im (redS_ok (redS_ok hi n) m)
  have s1 := size_im hi hn4
  have s2 := size_im (redS_ok hi n) hm4
  have hil := im_len hi
  have hjl := im_len (redS_ok hi n)
  have hzl := im_len (redS_ok (redS_ok hi n) m)
  obtain ⟨⟨zw, zh, zp⟩, hz⟩ : ∃ j, j = redS m (redS n i) := ⟨_, rfl⟩
  rw [← hz] at p2 p3 hs s2 hzl
  obtain ⟨⟨jw, jh, jp⟩, hj⟩ : ∃ j, j = redS n i := ⟨_, rfl⟩
  rw [← hj] at q2 p1 p2 s1 s2 hjl
  dsimp only at q2 p1 p2 p3 s1 s2 hs hjl hzl
  have t1 := lev_nat hn4
  have t2 := lev_nat hm4
  have t3 := lev_nat h4
  have hnm := h4
  have d0 : decide ((n : Int) < 0) = false := lt_not _
  have d1 : decide ((m : Int) < 0) = false := lt_not _
  have d2 : decide ((n : Int) > 4) = false := lt_not4 hn4
  have d3 : decide ((m : Int) > wrap64 (4 - n)) = false := lt_not5 h4
  have HW := Lib.hid hW
  have HbW := Lib.hid hbW
  have Hx := Lib.hid hx
  have Hr := Lib.hid (Kd.C_below hr hbW)
  have Q1 := Lib.hid q1
  have Q2 := Lib.hid q2
  have P1 := Lib.hid p1
  have P2 := Lib.hid p2
  have P3 := Lib.hid p3
  have S1 := Lib.hid s1
  have S2 := Lib.hid s2
  have HS := Lib.hid hs
  have T1 := Lib.hid t1
  have T2 := Lib.hid t2
  have T3 := Lib.hid t3
  have N3 := Lib.hid hnm
  obtain ⟨c0, c1, c2, _⟩ := blk3 hx
  clear hW hbW hx hr q1 q2 p1 p2 p3 s1 s2 hs t1 t2 t3 hj hz hnm hi
  go_enter Tryz.func5, Tryz.ntmps5
  go_wp2_with fail
  rw [← HW.out]
  have K := Pa.raster_Check.calls k i.w i.h A c i.p 0 W Hr.out hc Q1.out
  with_reducible refine K.mono ?_
  clear K
  rintro en w1 ⟨rfl, hb⟩
  have Hx1 := Lib.hid (blk_in hb Hx.out)
  have Hb1 := Lib.hid (HbW.out.trans (hb.mono HbW.out.size))
  have Hr1 := Lib.hid (Kd.C_below Hr.out hb)
  clear hb c0 c1 c2
  obtain ⟨c0, c1, c2, _⟩ := blk3 Hx1.out
  go_wp2_with fail
  have K := reduce_ok k i.w i.h A c i.p n jw jh jp w1 Hr1.out hc Q1.out T1.out (Nat.le_trans hil (by decide)) hn4 P1.out
  with_reducible refine K.mono ?_
  clear K
  rintro en w2 ⟨v2, rfl, hv2, hb⟩
  obtain ⟨A2, cc2, rfl, hcc2, hC2⟩ := Kd.R_reads hv2
  have Hx2 := Lib.hid (blk_in hb Hx1.out)
  have Hb2 := Lib.hid (Hb1.out.trans (hb.mono Hb1.out.size))
  have HC2 := Lib.hid hC2
  have Hr2 := Lib.hid (Kd.C_below Hr1.out hb)
  clear hb hC2 hv2 c0 c1 c2
  obtain ⟨c0, c1, c2, _⟩ := blk3 Hx2.out
  go_wp2_with fail
  have hbx := bel_alloc w2 (.cells #[.int .i64 jw, .int .i64 jh, .slice A2 jp.length cc2] 31)
  have hy3 : (w2.alloc (.cells #[.int .i64 jw, .int .i64 jh, .slice A2 jp.length cc2] 31)).heap[w2.heap.size]? = some (.cells #[.int .i64 jw, .int .i64 jh, .slice A2 jp.length cc2] 31 (0, 0)) := blk_new w2 _
  obtain ⟨w3, hw3⟩ : ∃ w3, w3 = w2.alloc (.cells #[.int .i64 jw, .int .i64 jh, .slice A2 jp.length cc2] 31) := ⟨_, rfl⟩
  rw [← hw3] at hbx hy3
  have HW3 := Lib.hid hw3
  have Hx3 := Lib.hid (blk_in hbx Hx2.out)
  have Hy3 := Lib.hid hy3
  have Hb3 := Lib.hid (Hb2.out.trans (hbx.mono Hb2.out.size))
  have HC3 := Lib.hid (Kd.C_below HC2.out hbx)
  have Hr3 := Lib.hid (Kd.C_below Hr2.out hbx)
  clear hbx hy3 hw3 c0 c1 c2
  rw [← HW3.out]
  have K := reduce_ok k jw jh A2 cc2 jp m zw zh zp w3 HC3.out hcc2 Q2.out T2.out (Nat.le_trans hjl (by decide)) hm4 P2.out
  with_reducible refine K.mono ?_
  clear K
  rintro en w4 ⟨v4, rfl, hv4, hb⟩
  obtain ⟨A4, cc4, rfl, hcc4, hC4⟩ := Kd.R_reads hv4
  have Hx4 := Lib.hid (blk_in hb Hx3.out)
  have Hy4 := Lib.hid (blk_in hb Hy3.out)
  have Hb4 := Lib.hid (Hb3.out.trans (hb.mono Hb3.out.size))
  have HC4 := Lib.hid hC4
  have Hr4 := Lib.hid (Kd.C_below Hr3.out hb)
  clear hb hC4 hv4
  have hbx := bel_alloc w4 (.cells #[.int .i64 zw, .int .i64 zh, .slice A4 zp.length cc4] 31)
  have hz5 : (w4.alloc (.cells #[.int .i64 zw, .int .i64 zh, .slice A4 zp.length cc4] 31)).heap[w4.heap.size]? = some (.cells #[.int .i64 zw, .int .i64 zh, .slice A4 zp.length cc4] 31 (0, 0)) := blk_new w4 _
  obtain ⟨w5, hw5⟩ : ∃ w5, w5 = w4.alloc (.cells #[.int .i64 zw, .int .i64 zh, .slice A4 zp.length cc4] 31) := ⟨_, rfl⟩
  rw [← hw5] at hbx hz5
  have HW5 := Lib.hid hw5
  have Hx5 := Lib.hid (blk_in hbx Hx4.out)
  have Hy5 := Lib.hid (blk_in hbx Hy4.out)
  have Hz5 := Lib.hid hz5
  have Hb5 := Lib.hid (Hb4.out.trans (hbx.mono Hb4.out.size))
  have HC5 := Lib.hid (Kd.C_below HC4.out hbx)
  have Hr5 := Lib.hid (Kd.C_below Hr4.out hbx)
  obtain ⟨c0, c1, c2, _⟩ := blk3 Hx5.out
  rw [hw5] at c0 c1 c2
  clear hbx hz5 hw5
  go_wp2_with fail
  rw [← HW5.out]
  have K := reduce_ok k i.w i.h A c i.p (n + m) zw zh zp w5 Hr5.out hc Q1.out T3.out (Nat.le_trans hil (by decide)) h4 P3.out
  rw [Int.natCast_add] at K
  with_reducible refine K.mono ?_
  clear K
  rintro en w6 ⟨v6, rfl, hv6, hb⟩
  obtain ⟨A6, cc6, rfl, hcc6, hC6⟩ := Kd.R_reads hv6
  have Hx6 := Lib.hid (blk_in hb Hx5.out)
  have Hy6 := Lib.hid (blk_in hb Hy5.out)
  have Hz6 := Lib.hid (blk_in hb Hz5.out)
  have Hb6 := Lib.hid (Hb5.out.trans (hb.mono Hb5.out.size))
  have HC6 := Lib.hid hC6
  have HD6 := Lib.hid (Kd.C_below HC5.out hb)
  clear hb hC6 hv6
  have hbx := bel_alloc w6 (.cells #[.int .i64 zw, .int .i64 zh, .slice A6 zp.length cc6] 31)
  have hz7 : (w6.alloc (.cells #[.int .i64 zw, .int .i64 zh, .slice A6 zp.length cc6] 31)).heap[w6.heap.size]? = some (.cells #[.int .i64 zw, .int .i64 zh, .slice A6 zp.length cc6] 31 (0, 0)) := blk_new w6 _
  obtain ⟨w7, hw7⟩ : ∃ w7, w7 = w6.alloc (.cells #[.int .i64 zw, .int .i64 zh, .slice A6 zp.length cc6] 31) := ⟨_, rfl⟩
  rw [← hw7] at hbx hz7
  have HW7 := Lib.hid hw7
  have Hx7 := Lib.hid (blk_in hbx Hx6.out)
  have Hy7 := Lib.hid (blk_in hbx Hy6.out)
  have Hz7 := Lib.hid (blk_in hbx Hz6.out)
  have Hu7 := Lib.hid hz7
  have Hb7 := Lib.hid (Hb6.out.trans (hbx.mono Hb6.out.size))
  have HC7 := Lib.hid (Kd.C_below HC6.out hbx)
  have HD7 := Lib.hid (Kd.C_below HD6.out hbx)
  obtain ⟨e0, e1, e2, _⟩ := blk3 Hx7.out
  rw [hw7] at e0 e1 e2
  clear hbx hz7 hw7 c0 c1 c2
  go_wp2_with fail
  rw [← HW7.out]
  have K := Pa.pyramid_Size.calls 6 i.w i.h n _ _ w7 S1.out
  with_reducible refine K.mono ?_
  clear K
  rintro en w8 ⟨rfl, hb⟩
  have Hy8 := Lib.hid (blk_in hb Hy7.out)
  have Hz8 := Lib.hid (blk_in hb Hz7.out)
  have Hu8 := Lib.hid (blk_in hb Hu7.out)
  have Hb8 := Lib.hid (Hb7.out.trans (hb.mono Hb7.out.size))
  have HC8 := Lib.hid (Kd.C_below HC7.out hb)
  have HD8 := Lib.hid (Kd.C_below HD7.out hb)
  clear hb e0 e1 e2
  go_wp2_with fail
  have K := Pa.pyramid_Size.calls 6 jw jh m _ _ w8 S2.out
  with_reducible refine K.mono ?_
  clear K
  rintro en w9 ⟨rfl, hb⟩
  have Hy9 := Lib.hid (blk_in hb Hy8.out)
  have Hz9 := Lib.hid (blk_in hb Hz8.out)
  have Hu9 := Lib.hid (blk_in hb Hu8.out)
  have Hb9 := Lib.hid (Hb8.out.trans (hb.mono Hb8.out.size))
  have HC9 := Lib.hid (Kd.C_below HC8.out hb)
  have HD9 := Lib.hid (Kd.C_below HD8.out hb)
  clear hb
  obtain ⟨y0, y1, y2, _⟩ := blk3 Hy9.out
  obtain ⟨z0, z1, z2, _⟩ := blk3 Hz9.out
  obtain ⟨u0, u1, u2, _⟩ := blk3 Hu9.out
  go_wp2_with fail
  have K := Pa.imageeditorlaw35_same.calls ks zw zh A4 cc4 zp zw zh A6 cc6 zp true w9 HD9.out hcc4 HC9.out hcc6 HS.out
  with_reducible refine K.mono ?_
  clear K
  rintro en w10 ⟨rfl, hb⟩
  have Hy10 := Lib.hid (blk_in hb Hy9.out)
  have Hz10 := Lib.hid (blk_in hb Hz9.out)
  have Hu10 := Lib.hid (blk_in hb Hu9.out)
  have Hb10 := Lib.hid (Hb9.out.trans (hb.mono Hb9.out.size))
  clear hb y0 y1 y2 z0 z1 z2 u0 u1 u2
  obtain ⟨y0, y1, y2, _⟩ := blk3 Hy10.out
  obtain ⟨u0, u1, u2, _⟩ := blk3 Hu10.out
  go_wp2_with fail
  have K := awake_any w10
  with_reducible refine K.mono ?_
  clear K
  rintro en w11 ⟨rfl, hb⟩
  have Hb11 := Lib.hid (Hb10.out.trans (hb.mono Hb10.out.size))
  clear hb
  go_wp2
  go_ret
  exact ⟨rfl, Hb11.out⟩
theorem steps_walk (a b : Int) (A : Option Addr) (c : Nat) (l : List Pa.S44) (n m : Int) (w0 : World) (hr : Kd.C Pa.k44 w0 A l.length l) (hc : l.length ≤ c) :
    Calls Tryz.prog 5 #[.agg #[.int .i64 a, .int .i64 b, .slice A l.length c], .int .i64 n, .int .i64 m] w0 fun e w' => e = .returned (.bool true) ∧ Below w0.heap.size w0 w' := by
  by_cases h0 : n < 0
  · exact steps_a a b A c l n m w0 h0
  have h0 := Int.not_lt.1 h0
  by_cases h1 : m < 0
  · exact steps_b a b A c l n m w0 h0 h1
  have h1 := Int.not_lt.1 h1
  by_cases h2 : 4 < n
  · exact steps_c a b A c l n m w0 h1 h2
  have h2 := Int.not_lt.1 h2
  by_cases h3 : 4 - n < m
  · exact steps_d a b A c l n m w0 h0 h1 h2 h3
  have h3 := Int.not_lt.1 h3
  by_cases h : chk a b l = 0
  · obtain ⟨x, y, rfl, rfl, hv⟩ := chk_vim h
    obtain ⟨n, rfl⟩ := Int.eq_ofNat_of_zero_le h0
    obtain ⟨m, rfl⟩ := Int.eq_ofNat_of_zero_le h1
    exact steps_f ⟨x, y, l⟩ hv A c n m w0 (by omega) hr hc
  · obtain ⟨k, hk⟩ := (check_ev a b l).got
    exact steps_e a b A c l n m w0 h0 h1 h2 h3 k _ hr hc hk h
end Go.Proofs.YtkchkfmggbejfaaGreatDoor
