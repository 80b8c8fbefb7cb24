/- The law PyramidParts walked. Printed by lp.py. -/
import Derived.Test.YtkchkfmggbejfaaGreatDoorAw
import Derived.Test.YtkchkfmggbejfaaGreatDoorPn
import Derived.Test.YtkchkfmggbejfaaGreatDoorCp
import Derived.Test.YtkchkfmggbejfaaGreatDoorOi
namespace Go.Proofs.YtkchkfmggbejfaaGreatDoor
open Go.RowKit Go.Proofs.YtkchkfmggbejfaaGreatDoorW.PrintWords Go.Proofs.YtkchkfmggbejfaaGreatDoorW.PrintMore
set_option linter.unusedSimpArgs false
set_option maxRecDepth 40000

set_option maxHeartbeats 4000000 in
theorem parts_a (w h : Int) (A : Option Addr) (c : Nat) (l : List Pa.S44) (lv x y a b : Int) (w0 : World) (k : Nat) (e : Int) (hr : Kd.C Pa.k44 w0 A l.length l) (hc : l.length ≤ c) (hk : Pa.raster_Check.f k w h l = some e) (he : e ≠ 0) :
    Calls Tryz.prog 6 #[.agg #[.int .i64 w, .int .i64 h, .slice A l.length c], .int .i64 lv, .agg #[.int .i64 x, .int .i64 y, .int .i64 a, .int .i64 b]] w0 fun e w' => e = .returned (.bool true) ∧ Below w0.heap.size w0 w' := by
  obtain ⟨W, hW⟩ : ∃ W, W = (w0.alloc (.cells #[.int .i64 w, .int .i64 h, .slice A l.length c] 31)).alloc (.cells #[.int .i64 x, .int .i64 y, .int .i64 a, .int .i64 b] 23) := ⟨_, rfl⟩
  have hbW : Below w0.heap.size w0 W := by rw [hW]; exact (bel_alloc _ _).alloc (by simp) _
  have hx : W.heap[w0.heap.size]? = some (.cells #[.int .i64 w, .int .i64 h, .slice A l.length c] 31 (0, 0)) := by rw [hW]; exact blk_in (bel_alloc _ _) (blk_new w0 _)
  have ho : W.heap[w0.heap.size + 1]? = some (.cells #[.int .i64 x, .int .i64 y, .int .i64 a, .int .i64 b] 23 (0, 0)) := by rw [hW]; exact blk_at _ _ _ (by simp)
  have HW := Lib.hid hW
  have HbW := Lib.hid hbW
  have Hx := Lib.hid hx
  have Ho := Lib.hid ho
  have Hr := Lib.hid (Kd.C_below hr hbW)
  have Hh := Lib.hid hk
  have d4 : (e != 0) = true := by simp [he]
  obtain ⟨c0, c1, c2, _⟩ := blk3 hx
  clear hW hbW hx ho hr hk he
  go_enter Tryz.func6, Tryz.ntmps6
  go_wp2_with fail
  rw [← HW.out]
  have K := Pa.raster_Check.calls k w h A c l e W Hr.out hc Hh.out
  with_reducible refine K.mono ?_
  clear K
  rintro en w1 ⟨rfl, hb⟩
  have Hb1 := Lib.hid (HbW.out.trans (hb.mono HbW.out.size))
  clear hb
  go_wp2_with fail
  have K := awake_any w1
  with_reducible refine K.mono ?_
  clear K
  rintro en w2 ⟨rfl, hb⟩
  have Hb := Lib.hid (Hb1.out.trans (hb.mono Hb1.out.size))
  clear hb
  go_wp2
  go_ret
  exact ⟨rfl, Hb.out⟩

set_option maxHeartbeats 4000000 in
theorem parts_z (i : Im) (hi : i.ok) (A : Option Addr) (c : Nat) (lv x y a b : Int) (w0 : World) (hr : Kd.C Pa.k44 w0 A i.p.length i.p) (hc : i.p.length ≤ c) (hn : needs i.w i.h lv x y a b = (0, 0, 0, 0)) :
    Calls Tryz.prog 6 #[.agg #[.int .i64 i.w, .int .i64 i.h, .slice A i.p.length c], .int .i64 lv, .agg #[.int .i64 x, .int .i64 y, .int .i64 a, .int .i64 b]] w0 fun e w' => e = .returned (.bool true) ∧ Below w0.heap.size w0 w' := by
  obtain ⟨k, q1⟩ := (check_ev i.w i.h i.p).got
  rw [vim_chk hi] at q1
  obtain ⟨W, hW⟩ : ∃ W, W = (w0.alloc (.cells #[.int .i64 i.w, .int .i64 i.h, .slice A i.p.length c] 31)).alloc (.cells #[.int .i64 x, .int .i64 y, .int .i64 a, .int .i64 b] 23) := ⟨_, rfl⟩
  have hbW : Below w0.heap.size w0 W := by rw [hW]; exact (bel_alloc _ _).alloc (by simp) _
  have hx : W.heap[w0.heap.size]? = some (.cells #[.int .i64 i.w, .int .i64 i.h, .slice A i.p.length c] 31 (0, 0)) := by rw [hW]; exact blk_in (bel_alloc _ _) (blk_new w0 _)
  have ho : W.heap[w0.heap.size + 1]? = some (.cells #[.int .i64 x, .int .i64 y, .int .i64 a, .int .i64 b] 23 (0, 0)) := by rw [hW]; exact blk_at _ _ _ (by simp)
  have HW := Lib.hid hW
  have HbW := Lib.hid hbW
  have Hx := Lib.hid hx
  have Ho := Lib.hid ho
  have Hr := Lib.hid (Kd.C_below hr hbW)
  have Q1 := Lib.hid q1
  have HN := Lib.hid hn.symm
  have q23 := eql23
  obtain ⟨c0, c1, c2, _⟩ := blk3 hx
  clear hW hbW hx ho hr q1 hn hi
  go_enter Tryz.func6, Tryz.ntmps6
  go_wp2_with fail
  rw [← HW.out]
  have K := Pa.raster_Check.calls k i.w i.h A c i.p 0 W Hr.out hc Q1.out
  with_reducible refine K.mono ?_
  clear K
  rintro en w1 ⟨rfl, hb⟩
  have Hx1 := Lib.hid (blk_in hb Hx.out)
  have Ho1 := Lib.hid (blk_in hb Ho.out)
  have Hb1 := Lib.hid (HbW.out.trans (hb.mono HbW.out.size))
  have Hr1 := Lib.hid (Kd.C_below Hr.out hb)
  clear hb c0 c1 c2
  obtain ⟨c0, c1, c2, _⟩ := blk3 Hx1.out
  obtain ⟨o0, o1, o2, o3⟩ := blk4 Ho1.out
  go_wp2_with fail
  have K := needs_any i.w i.h lv x y a b w1
  rw [← HN.out] at K
  unfold rv at K
  with_reducible refine K.mono ?_
  clear K
  rintro en w2 ⟨rfl, hb⟩
  have Hx2 := Lib.hid (blk_in hb Hx1.out)
  have Ho2 := Lib.hid (blk_in hb Ho1.out)
  have Hb2 := Lib.hid (Hb1.out.trans (hb.mono Hb1.out.size))
  have Hr2 := Lib.hid (Kd.C_below Hr1.out hb)
  clear hb c0 c1 c2 o0 o1 o2 o3
  have hbx := bel_alloc w2 (.cells #[.int .i64 0, .int .i64 0, .int .i64 0, .int .i64 0] 23)
  have hn3 : (w2.alloc (.cells #[.int .i64 0, .int .i64 0, .int .i64 0, .int .i64 0] 23)).heap[w2.heap.size]? = some (.cells #[.int .i64 0, .int .i64 0, .int .i64 0, .int .i64 0] 23 (0, 0)) := blk_new w2 _
  obtain ⟨w3, hw3⟩ : ∃ w3, w3 = w2.alloc (.cells #[.int .i64 0, .int .i64 0, .int .i64 0, .int .i64 0] 23) := ⟨_, rfl⟩
  rw [← hw3] at hbx hn3
  have HW3 := Lib.hid hw3
  have Hn3 := Lib.hid hn3
  have Hx3 := Lib.hid (blk_in hbx Hx2.out)
  have Ho3 := Lib.hid (blk_in hbx Ho2.out)
  have Hb3 := Lib.hid (Hb2.out.trans (hbx.mono Hb2.out.size))
  have Hr3 := Lib.hid (Kd.C_below Hr2.out hbx)
  obtain ⟨n0, n1, n2, n3⟩ := blk4 Hn3.out
  rw [hw3] at n0 n1 n2 n3
  clear hbx hn3 hw3
  go_wp2_with fail
  rw [← HW3.out]
  have K := Pd.imageeditorref02_Empty.calls 0 0 0 0 true w3 dempty_0
  with_reducible refine K.mono ?_
  clear K
  rintro en w4 ⟨rfl, hb⟩
  have Hn4 := Lib.hid (blk_in hb Hn3.out)
  have Hb4 := Lib.hid (Hb3.out.trans (hb.mono Hb3.out.size))
  clear hb n0 n1 n2 n3
  obtain ⟨n0, n1, n2, n3⟩ := blk4 Hn4.out
  go_wp2_with fail
  have K := awake_any w4
  with_reducible refine K.mono ?_
  clear K
  rintro en w5 ⟨rfl, hb⟩
  have Hb5 := Lib.hid (Hb4.out.trans (hb.mono Hb4.out.size))
  clear hb
  go_wp2
  go_ret
  exact ⟨rfl, Hb5.out⟩

set_option maxHeartbeats 4000000 in
theorem parts_f (i : Im) (hi : i.ok) (A : Option Addr) (c n x y a b : Nat) (w0 : World) (hr : Kd.C Pa.k44 w0 A i.p.length i.p) (hc : i.p.length ≤ c) (h4 : n ≤ 4) (ha : 0 < a) (hb : 0 < b) (hx' : x + a ≤ (redS n i).w) (hy' : y + b ≤ (redS n i).h) (hX : 2 ^ n * x < i.w) (hY : 2 ^ n * y < i.h)
    (hn : needs i.w i.h n x y a b = (((2 ^ n * x : Nat) : Int), ((2 ^ n * y : Nat) : Int), ((min (2 ^ n * (x + a)) i.w - 2 ^ n * x : Nat) : Int), ((min (2 ^ n * (y + b)) i.h - 2 ^ n * y : Nat) : Int))) :
    Calls Tryz.prog 6 #[.agg #[.int .i64 i.w, .int .i64 i.h, .slice A i.p.length c], .int .i64 n, .agg #[.int .i64 x, .int .i64 y, .int .i64 a, .int .i64 b]] w0 fun e w' => e = .returned (.bool true) ∧ Below w0.heap.size w0 w' := by
  obtain ⟨ca, cb⟩ := cut_pos (Nat.two_pow_pos n) ha hX
  obtain ⟨da, db⟩ := cut_pos (Nat.two_pow_pos n) hb hY
  have hpl := parts_law hi n x y a b ha hb hx' hy'
  obtain ⟨nx, hnx⟩ : ∃ m, m = 2 ^ n * x := ⟨_, rfl⟩
  obtain ⟨ny, hny⟩ : ∃ m, m = 2 ^ n * y := ⟨_, rfl⟩
  obtain ⟨na, hna⟩ : ∃ m, m = min (2 ^ n * (x + a)) i.w - 2 ^ n * x := ⟨_, rfl⟩
  obtain ⟨nb, hnb⟩ : ∃ m, m = min (2 ^ n * (y + b)) i.h - 2 ^ n * y := ⟨_, rfl⟩
  rw [← hna] at ca cb
  rw [← hnx] at cb
  rw [← hnb] at da db
  rw [← hny] at db
  rw [← hna, ← hnb, ← hnx, ← hny] at hn hpl
  have hw := hi.ha
  have hh := hi.hb
  have hv : vR nx ny na nb = true := vR_iff.2 ⟨by omega, by omega⟩
  have hem := dempty_f hv ⟨by omega, by omega⟩
  have hci := cropS_ok hi ca da cb db
  have hjo := redS_ok hi n
  obtain ⟨k, q1, _, p1, _, _⟩ := steps_facts hi n 0
  obtain ⟨k3, q3, _, p3, _, _⟩ := steps_facts hci n 0
  rw [← hpl] at p3
  have hco := cropS_ok hjo ha hb hx' hy'
  obtain ⟨ks, hs⟩ := same_im hco
  have hil := im_len hi
  have hcl := im_len hci
  obtain ⟨⟨jw, jh, jp⟩, hj⟩ : ∃ j, j = redS n i := ⟨_, rfl⟩
  rw [← hj] at p1 p3 hjo hx' hy' hs
  obtain ⟨zp, hzp⟩ : ∃ z, z = (cropS ⟨jw, jh, jp⟩ x y a b).p := ⟨_, rfl⟩
  obtain ⟨cp, hcp⟩ : ∃ z, z = (cropS i nx ny na nb).p := ⟨_, rfl⟩
  have p3' : red k3 n na nb cp = some ((a : Int), (b : Int), zp) := by rw [hcp, hzp]; exact p3
  have q3' : Pa.raster_Check.f k3 na nb cp = some 0 := by rw [hcp]; exact q3
  have hs' : Pa.imageeditorlaw35_same.f ks a b zp a b zp = some true := by rw [hzp]; exact hs
  have hcl' : cp.length ≤ 100000 := by rw [hcp]; exact Nat.le_trans hcl (by decide)
  have c1 : ∀ A c w, Kd.C Pa.k44 w A jp.length jp → jp.length ≤ c → Calls Tryz.prog 22 #[.agg #[.int .i64 jw, .int .i64 jh, .slice A jp.length c], .agg #[.int .i64 x, .int .i64 y, .int .i64 a, .int .i64 b]] w fun en w' => ∃ v, en = .returned (.tuple #[.agg #[.int .i64 a, .int .i64 b, v], .int .i64 0]) ∧ Kd.R Pa.k44 44 w' w.heap.size (fun _ => True) v zp ∧ Below w.heap.size w w' := by
    intro A c w h1 h2; rw [hzp]; exact crop_ok ⟨jw, jh, jp⟩ hjo A c x y a b ha hb hx' hy' w h1 h2
  have c2 : ∀ A c w, Kd.C Pa.k44 w A i.p.length i.p → i.p.length ≤ c → Calls Tryz.prog 22 #[.agg #[.int .i64 i.w, .int .i64 i.h, .slice A i.p.length c], .agg #[.int .i64 nx, .int .i64 ny, .int .i64 na, .int .i64 nb]] w fun en w' => ∃ v, en = .returned (.tuple #[.agg #[.int .i64 na, .int .i64 nb, v], .int .i64 0]) ∧ Kd.R Pa.k44 44 w' w.heap.size (fun _ => True) v cp ∧ Below w.heap.size w w' := by
    intro A c w h1 h2; rw [hcp]; exact crop_ok i hi A c nx ny na nb ca da cb db w h1 h2
  obtain ⟨W, hW⟩ : ∃ W, W = (w0.alloc (.cells #[.int .i64 i.w, .int .i64 i.h, .slice A i.p.length c] 31)).alloc (.cells #[.int .i64 x, .int .i64 y, .int .i64 a, .int .i64 b] 23) := ⟨_, rfl⟩
  have hbW : Below w0.heap.size w0 W := by rw [hW]; exact (bel_alloc _ _).alloc (by simp) _
  have hx : W.heap[w0.heap.size]? = some (.cells #[.int .i64 i.w, .int .i64 i.h, .slice A i.p.length c] 31 (0, 0)) := by rw [hW]; exact blk_in (bel_alloc _ _) (blk_new w0 _)
  have ho : W.heap[w0.heap.size + 1]? = some (.cells #[.int .i64 x, .int .i64 y, .int .i64 a, .int .i64 b] 23 (0, 0)) := by rw [hW]; exact blk_at _ _ _ (by simp)
  have HW := Lib.hid hW
  have HbW := Lib.hid hbW
  have Hx := Lib.hid hx
  have Ho := Lib.hid ho
  have Hr := Lib.hid (Kd.C_below hr hbW)
  have Q1 := Lib.hid q1
  have P1 := Lib.hid p1
  have Q3 := Lib.hid q3'
  have P3 := Lib.hid p3'
  have HS := Lib.hid hs'
  have HE := Lib.hid hem
  have C1 := Lib.hid c1
  have C2 := Lib.hid c2
  have HN := Lib.hid hn.symm
  clear c1 c2
  obtain ⟨c0, c1, c2, _⟩ := blk3 hx
  clear hW hbW hx ho hr q1 q3 q3' p1 p3 p3' hs hs' hem hn hi hpl hci hjo hco hj hzp hcp hcl hv hX hY hx' hy' hnx hny hna hnb ca cb da db hw hh ha hb
  go_enter Tryz.func6, Tryz.ntmps6
  go_wp2_with fail
  rw [← HW.out]
  have K := Pa.raster_Check.calls k i.w i.h A c i.p 0 W Hr.out hc Q1.out
  with_reducible refine K.mono ?_
  clear K
  rintro en w1 ⟨rfl, hb⟩
  have Hx1 := Lib.hid (blk_in hb Hx.out)
  have Ho1 := Lib.hid (blk_in hb Ho.out)
  have Hb1 := Lib.hid (HbW.out.trans (hb.mono HbW.out.size))
  have Hr1 := Lib.hid (Kd.C_below Hr.out hb)
  clear hb c0 c1 c2
  obtain ⟨c0, c1, c2, _⟩ := blk3 Hx1.out
  obtain ⟨o0, o1, o2, o3⟩ := blk4 Ho1.out
  go_wp2_with fail
  have K := needs_any i.w i.h n x y a b w1
  rw [← HN.out] at K
  unfold rv at K
  with_reducible refine K.mono ?_
  clear K
  rintro en w2 ⟨rfl, hb⟩
  have Hx2 := Lib.hid (blk_in hb Hx1.out)
  have Ho2 := Lib.hid (blk_in hb Ho1.out)
  have Hb2 := Lib.hid (Hb1.out.trans (hb.mono Hb1.out.size))
  have Hr2 := Lib.hid (Kd.C_below Hr1.out hb)
  clear hb c0 c1 c2 o0 o1 o2 o3
  have hbx := bel_alloc w2 (.cells #[.int .i64 nx, .int .i64 ny, .int .i64 na, .int .i64 nb] 23)
  have hn3 : (w2.alloc (.cells #[.int .i64 nx, .int .i64 ny, .int .i64 na, .int .i64 nb] 23)).heap[w2.heap.size]? = some (.cells #[.int .i64 nx, .int .i64 ny, .int .i64 na, .int .i64 nb] 23 (0, 0)) := blk_new w2 _
  obtain ⟨w3, hw3⟩ : ∃ w3, w3 = w2.alloc (.cells #[.int .i64 nx, .int .i64 ny, .int .i64 na, .int .i64 nb] 23) := ⟨_, rfl⟩
  rw [← hw3] at hbx hn3
  have HW3 := Lib.hid hw3
  have Hn3 := Lib.hid hn3
  have Hx3 := Lib.hid (blk_in hbx Hx2.out)
  have Ho3 := Lib.hid (blk_in hbx Ho2.out)
  have Hb3 := Lib.hid (Hb2.out.trans (hbx.mono Hb2.out.size))
  have Hr3 := Lib.hid (Kd.C_below Hr2.out hbx)
  obtain ⟨n0, n1, n2, n3⟩ := blk4 Hn3.out
  rw [hw3] at n0 n1 n2 n3
  clear hbx hn3 hw3
  go_wp2_with fail
  rw [← HW3.out]
  have K := Pd.imageeditorref02_Empty.calls nx ny na nb false w3 HE.out
  with_reducible refine K.mono ?_
  clear K
  rintro en w4 ⟨rfl, hb⟩
  have Hx4 := Lib.hid (blk_in hb Hx3.out)
  have Ho4 := Lib.hid (blk_in hb Ho3.out)
  have Hn4 := Lib.hid (blk_in hb Hn3.out)
  have Hr4 := Lib.hid (Kd.C_below Hr3.out hb)
  have Hb4 := Lib.hid (Hb3.out.trans (hb.mono Hb3.out.size))
  clear hb n0 n1 n2 n3
  obtain ⟨c0, c1, c2, _⟩ := blk3 Hx4.out
  go_wp2_with fail
  have K := reduce_ok k i.w i.h A c i.p n jw jh jp w4 Hr4.out hc Q1.out (lev_nat h4) (Nat.le_trans hil (by decide)) h4 P1.out
  with_reducible refine K.mono ?_
  clear K
  rintro en w5 ⟨v5, rfl, hv5, hb⟩
  have Hx5 := Lib.hid (blk_in hb Hx4.out)
  have Ho5 := Lib.hid (blk_in hb Ho4.out)
  have Hn5 := Lib.hid (blk_in hb Hn4.out)
  have Hr5 := Lib.hid (Kd.C_below Hr4.out hb)
  have Hb5 := Lib.hid (Hb4.out.trans (hb.mono Hb4.out.size))
  obtain ⟨A5, cc5, rfl, hcc5, hC5⟩ := Kd.R_reads hv5
  have Ha5 := Lib.hid hC5
  clear hb hC5 hv5 c0 c1 c2
  have hbx := bel_alloc w5 (.cells #[.int .i64 jw, .int .i64 jh, .slice A5 jp.length cc5] 31)
  have hnw : (w5.alloc (.cells #[.int .i64 jw, .int .i64 jh, .slice A5 jp.length cc5] 31)).heap[w5.heap.size]? = some (.cells #[.int .i64 jw, .int .i64 jh, .slice A5 jp.length cc5] 31 (0, 0)) := blk_new w5 _
  obtain ⟨w6, hw⟩ : ∃ u, u = w5.alloc (.cells #[.int .i64 jw, .int .i64 jh, .slice A5 jp.length cc5] 31) := ⟨_, rfl⟩
  rw [← hw] at hbx hnw
  have HW6 := Lib.hid hw
  have Hx6 := Lib.hid (blk_in hbx Hx5.out)
  have Ho6 := Lib.hid (blk_in hbx Ho5.out)
  have Hn6 := Lib.hid (blk_in hbx Hn5.out)
  have Hr6 := Lib.hid (Kd.C_below Hr5.out hbx)
  have Ha6 := Lib.hid (Kd.C_below Ha5.out hbx)
  have Hb6 := Lib.hid (Hb5.out.trans (hbx.mono Hb5.out.size))
  have Hu6 := Lib.hid hnw
  obtain ⟨o0, o1, o2, o3⟩ := blk4 Ho6.out
  rw [hw] at o0 o1 o2 o3
  clear hbx hnw hw
  go_wp2_with fail
  rw [← HW6.out]
  have K := C1.out A5 cc5 w6 Ha6.out hcc5
  with_reducible refine K.mono ?_
  clear K
  rintro en w7 ⟨v7, rfl, hv7, hb⟩
  have Hx7 := Lib.hid (blk_in hb Hx6.out)
  have Ho7 := Lib.hid (blk_in hb Ho6.out)
  have Hn7 := Lib.hid (blk_in hb Hn6.out)
  have Hr7 := Lib.hid (Kd.C_below Hr6.out hb)
  have Hb7 := Lib.hid (Hb6.out.trans (hb.mono Hb6.out.size))
  obtain ⟨A7, cc7, rfl, hcc7, hC7⟩ := Kd.R_reads hv7
  have Hz7 := Lib.hid hC7
  clear hb hC7 hv7 o0 o1 o2 o3
  have hbx := bel_alloc w7 (.cells #[.int .i64 a, .int .i64 b, .slice A7 zp.length cc7] 31)
  have hnw : (w7.alloc (.cells #[.int .i64 a, .int .i64 b, .slice A7 zp.length cc7] 31)).heap[w7.heap.size]? = some (.cells #[.int .i64 a, .int .i64 b, .slice A7 zp.length cc7] 31 (0, 0)) := blk_new w7 _
  obtain ⟨w8, hw⟩ : ∃ u, u = w7.alloc (.cells #[.int .i64 a, .int .i64 b, .slice A7 zp.length cc7] 31) := ⟨_, rfl⟩
  rw [← hw] at hbx hnw
  have HW8 := Lib.hid hw
  have Hx8 := Lib.hid (blk_in hbx Hx7.out)
  have Ho8 := Lib.hid (blk_in hbx Ho7.out)
  have Hn8 := Lib.hid (blk_in hbx Hn7.out)
  have Hr8 := Lib.hid (Kd.C_below Hr7.out hbx)
  have Hz8 := Lib.hid (Kd.C_below Hz7.out hbx)
  have Hb8 := Lib.hid (Hb7.out.trans (hbx.mono Hb7.out.size))
  have Hd8 := Lib.hid hnw
  obtain ⟨c0, c1, c2, _⟩ := blk3 Hx8.out
  obtain ⟨n0, n1, n2, n3⟩ := blk4 Hn8.out
  rw [hw] at c0 c1 c2 n0 n1 n2 n3
  clear hbx hnw hw
  go_wp2_with fail
  rw [← HW8.out]
  have K := C2.out A c w8 Hr8.out hc
  with_reducible refine K.mono ?_
  clear K
  rintro en w9 ⟨v9, rfl, hv9, hb⟩
  have Hd9 := Lib.hid (blk_in hb Hd8.out)
  have Hz9 := Lib.hid (Kd.C_below Hz8.out hb)
  have Hb9 := Lib.hid (Hb8.out.trans (hb.mono Hb8.out.size))
  obtain ⟨A9, cc9, rfl, hcc9, hC9⟩ := Kd.R_reads hv9
  have Hq9 := Lib.hid hC9
  clear hb hC9 hv9 c0 c1 c2 n0 n1 n2 n3
  have hbx := bel_alloc w9 (.cells #[.int .i64 na, .int .i64 nb, .slice A9 cp.length cc9] 31)
  have hnw : (w9.alloc (.cells #[.int .i64 na, .int .i64 nb, .slice A9 cp.length cc9] 31)).heap[w9.heap.size]? = some (.cells #[.int .i64 na, .int .i64 nb, .slice A9 cp.length cc9] 31 (0, 0)) := blk_new w9 _
  obtain ⟨w10, hw⟩ : ∃ u, u = w9.alloc (.cells #[.int .i64 na, .int .i64 nb, .slice A9 cp.length cc9] 31) := ⟨_, rfl⟩
  rw [← hw] at hbx hnw
  have HW10 := Lib.hid hw
  have Hd10 := Lib.hid (blk_in hbx Hd9.out)
  have Hz10 := Lib.hid (Kd.C_below Hz9.out hbx)
  have Hq10 := Lib.hid (Kd.C_below Hq9.out hbx)
  have Hb10 := Lib.hid (Hb9.out.trans (hbx.mono Hb9.out.size))
  have Hg10 := Lib.hid hnw
  clear hbx hnw hw
  go_wp2_with fail
  rw [← HW10.out]
  have K := reduce_ok k3 na nb A9 cc9 cp n a b zp w10 Hq10.out hcc9 Q3.out (lev_nat h4) hcl' h4 P3.out
  with_reducible refine K.mono ?_
  clear K
  rintro en w11 ⟨v11, rfl, hv11, hb⟩
  have Hd11 := Lib.hid (blk_in hb Hd10.out)
  have Hz11 := Lib.hid (Kd.C_below Hz10.out hb)
  have Hb11 := Lib.hid (Hb10.out.trans (hb.mono Hb10.out.size))
  obtain ⟨A11, cc11, rfl, hcc11, hC11⟩ := Kd.R_reads hv11
  have Hp11 := Lib.hid hC11
  clear hb hC11 hv11
  have hbx := bel_alloc w11 (.cells #[.int .i64 a, .int .i64 b, .slice A11 zp.length cc11] 31)
  have hnw : (w11.alloc (.cells #[.int .i64 a, .int .i64 b, .slice A11 zp.length cc11] 31)).heap[w11.heap.size]? = some (.cells #[.int .i64 a, .int .i64 b, .slice A11 zp.length cc11] 31 (0, 0)) := blk_new w11 _
  obtain ⟨w12, hw⟩ : ∃ u, u = w11.alloc (.cells #[.int .i64 a, .int .i64 b, .slice A11 zp.length cc11] 31) := ⟨_, rfl⟩
  rw [← hw] at hbx hnw
  have HW12 := Lib.hid hw
  have Hd12 := Lib.hid (blk_in hbx Hd11.out)
  have Hz12 := Lib.hid (Kd.C_below Hz11.out hbx)
  have Hp12 := Lib.hid (Kd.C_below Hp11.out hbx)
  have Hb12 := Lib.hid (Hb11.out.trans (hbx.mono Hb11.out.size))
  have Hk12 := Lib.hid hnw
  obtain ⟨c0, c1, c2, _⟩ := blk3 Hd12.out
  rw [hw] at c0 c1 c2
  clear hbx hnw hw
  go_wp2_with fail
  rw [← HW12.out]
  have K := Pa.imageeditorlaw35_same.calls ks a b A7 cc7 zp a b A11 cc11 zp true w12 Hz12.out hcc7 Hp12.out hcc11 HS.out
  with_reducible refine K.mono ?_
  clear K
  rintro en w13 ⟨rfl, hb⟩
  have Hb13 := Lib.hid (Hb12.out.trans (hb.mono Hb12.out.size))
  clear hb c0 c1 c2
  go_wp2_with fail
  have K := awake_any w13
  with_reducible refine K.mono ?_
  clear K
  rintro en w14 ⟨rfl, hb⟩
  have Hb14 := Lib.hid (Hb13.out.trans (hb.mono Hb13.out.size))
  clear hb
  go_wp2
  go_ret
  exact ⟨rfl, Hb14.out⟩

theorem parts_walk (w h : Int) (A : Option Addr) (c : Nat) (l : List Pa.S44) (lv x y a b : Int) (w0 : World) (hr : Kd.C Pa.k44 w0 A l.length l) (hc : l.length ≤ c) :
    Calls Tryz.prog 6 #[.agg #[.int .i64 w, .int .i64 h, .slice A l.length c], .int .i64 lv, .agg #[.int .i64 x, .int .i64 y, .int .i64 a, .int .i64 b]] w0 fun e w' => e = .returned (.bool true) ∧ Below w0.heap.size w0 w' := by
  by_cases h0 : chk w h l = 0
  · obtain ⟨X, Y, rfl, rfl, hv⟩ := chk_vim h0
    by_cases hn : needs X Y lv x y a b = (0, 0, 0, 0)
    · exact parts_z ⟨X, Y, l⟩ hv A c lv x y a b w0 hr hc hn
    · obtain ⟨n, x, y, a, b, rfl, rfl, rfl, rfl, rfl, h4, ha, hb, h1, h2, h3, h5, h6⟩ := parts_needs (i := ⟨X, Y, l⟩) hn
      exact parts_f ⟨X, Y, l⟩ hv A c n x y a b w0 hr hc h4 ha hb h1 h2 h3 h5 h6
  · obtain ⟨k, hk⟩ := (check_ev w h l).got
    exact parts_a w h A c l lv x y a b w0 k _ hr hc hk h0
end Go.Proofs.YtkchkfmggbejfaaGreatDoor
