/- The law PyramidLevels walked. Printed by ll.py. -/
import Derived.Test.YtkchkfmggbejfaaGreatDoorAw
import Derived.Test.YtkchkfmggbejfaaGreatDoorCc
import Derived.Test.YtkchkfmggbejfaaGreatDoorOi
namespace Go.Proofs.YtkchkfmggbejfaaGreatDoor
open Go.RowKit Go.Proofs.YtkchkfmggbejfaaGreatDoorW.PrintWords Go.Proofs.YtkchkfmggbejfaaGreatDoorW.PrintMore
set_option linter.unusedSimpArgs false
set_option maxRecDepth 20000

/-! ### the same row, as either side spells it -/
theorem C_cv {w : World} {A : Option Addr} {n : Nat} {l : List Pa.S44} (h : Kd.C Pa.k44 w A n l) : Kd.C Pc.k44 w A n (l.map cv) := by
  obtain ⟨h1, h2, h3⟩ := h
  refine ⟨by rw [List.length_map]; exact h1, h2, fun h0 => ?_⟩
  obtain ⟨ad, e, hc⟩ := h3 h0
  refine ⟨ad, e, fun j p hp => ?_⟩
  rw [List.getElem?_map] at hp
  obtain ⟨q, hq, rfl⟩ := Option.map_eq_some_iff.1 hp
  obtain ⟨c, hs, hk, hcell⟩ := hc j q hq
  have e := Pa.k44_open hk
  subst e
  exact ⟨_, rfl, Pc.k44_mk w (cv q), hcell⟩
theorem C_vc {w : World} {A : Option Addr} {n : Nat} {l : List Pa.S44} (h : Kd.C Pc.k44 w A n (l.map cv)) : Kd.C Pa.k44 w A n l := by
  obtain ⟨h1, h2, h3⟩ := h
  refine ⟨by rw [List.length_map] at h1; exact h1, h2, fun h0 => ?_⟩
  obtain ⟨ad, e, hc⟩ := h3 h0
  refine ⟨ad, e, fun j p hp => ?_⟩
  obtain ⟨c, hs, hk, hcell⟩ := hc j (cv p) (by rw [List.getElem?_map, hp]; rfl)
  have e := Pc.k44_open hk
  subst e
  exact ⟨_, rfl, Pa.k44_mk w p, hcell⟩

/-- A call that returns this image, readable, and this error. -/
def Gives (f : FuncId) (args : Array Value) (w : World) (t1 t2 : Int) (t3 : List Pa.S44) (g : Int) : Prop :=
  Calls Tryz.prog f args w fun en w' => ∃ A' c', en = .returned (.tuple #[.agg #[.int .i64 t1, .int .i64 t2, .slice A' t3.length c'], .int .i64 g]) ∧ t3.length ≤ c' ∧ Kd.C Pa.k44 w' A' t3.length t3 ∧ Below w.heap.size w w'
theorem C_empty (w : World) : Kd.C Pa.k44 w none ([] : List Pa.S44).length [] := Kd.C_nil _ _

theorem half_any (a b : Int) (l : List Pa.S44) : ∃ t1 t2 t3 g, t3.length ≤ 100000 ∧
    (∀ A c w, Kd.C Pa.k44 w A l.length l → l.length ≤ c → Gives 15 #[.agg #[.int .i64 a, .int .i64 b, .slice A l.length c]] w t1 t2 t3 g) ∧
    (∀ A c w, Kd.C Pa.k44 w A l.length l → l.length ≤ c → Gives 16 #[.agg #[.int .i64 a, .int .i64 b, .slice A l.length c]] w t1 t2 t3 g) := by
  obtain ⟨t1, t2, t3, g, hl, h1, h2⟩ : ∃ t1 t2 t3 g, t3.length ≤ 100000 ∧ Ev (fun k => Pa.pyramid_Half.f k a b l) (t1, t2, t3, g) ∧ Ev (fun k => Pc.imageeditorref35_Half.f k a b (l.map cv)) (t1, t2, t3.map cv, g) := by
    by_cases h : chk a b l = 0
    · obtain ⟨x, y, rfl, rfl, hv⟩ := chk_vim h
      exact ⟨_, _, _, _, Nat.le_trans (vim_len (half_vim hv)) (by decide), Half_ev hv, rhalf_ev hv⟩
    · exact ⟨_, _, _, _, Nat.zero_le _, Half_bad h, rhalf_bad h⟩
  obtain ⟨k1, h1⟩ := h1.got
  obtain ⟨k2, h2⟩ := h2.got
  refine ⟨t1, t2, t3, g, hl, fun A c w hr hc => ?_, fun A c w hr hc => ?_⟩
  · refine (Pa.pyramid_Half.calls k1 a b A c l t1 t2 t3 g w hr hc h1).mono ?_
    rintro en w1 ⟨v, rfl, hv, hb⟩
    obtain ⟨A1, c1, rfl, h1, h2⟩ := Kd.R_reads hv
    exact ⟨A1, c1, rfl, h1, h2, hb⟩
  · have K := Pc.imageeditorref35_Half.calls k2 a b A c (l.map cv) t1 t2 (t3.map cv) g w (by rw [List.length_map]; exact C_cv hr) (by rw [List.length_map]; exact hc) h2
    rw [List.length_map] at K
    refine K.mono ?_
    rintro en w1 ⟨v, rfl, hv, hb⟩
    obtain ⟨A1, c1, rfl, h1, h2⟩ := Kd.R_reads hv
    rw [List.length_map] at h1 h2 ⊢
    exact ⟨A1, c1, rfl, h1, C_vc h2, hb⟩

theorem reduce_any (a b : Int) (l : List Pa.S44) (lv : Int) : ∃ t1 t2 t3 g, t3.length ≤ 100000 ∧
    (∀ A c w, Kd.C Pa.k44 w A l.length l → l.length ≤ c → Gives 17 #[.agg #[.int .i64 a, .int .i64 b, .slice A l.length c], .int .i64 lv] w t1 t2 t3 g) ∧
    (∀ A c w, Kd.C Pa.k44 w A l.length l → l.length ≤ c → Gives 18 #[.agg #[.int .i64 a, .int .i64 b, .slice A l.length c], .int .i64 lv] w t1 t2 t3 g) := by
  obtain ⟨k1, h1⟩ := (check_ev a b l).got
  obtain ⟨k2, h2⟩ := (rcheck_ev a b l).got
  have cc : ∀ {A c w}, Kd.C Pa.k44 w A l.length l → l.length ≤ c → Kd.C Pc.k44 w A (l.map cv).length (l.map cv) ∧ (l.map cv).length ≤ c := fun hr hc => by rw [List.length_map]; exact ⟨C_cv hr, hc⟩
  by_cases h : chk a b l = 0
  · by_cases hl : lv < 0 ∨ 4 < lv
    · rw [h] at h1 h2
      have hL : Pa.pyramid_isLevel.f lv = some false := by
        unfold Pa.pyramid_isLevel.f
        by_cases h0 : lv ≥ 0
        · rw [if_pos h0, decide_eq_false (by omega)]
        · rw [if_neg h0]
      refine ⟨0, 0, [], 2, Nat.zero_le _, fun A c w hr hc => ?_, fun A c w hr hc => ?_⟩
      · refine (reduce_range k1 a b A c l lv w hr hc h1 hL).mono ?_
        rintro en w1 ⟨rfl, hb⟩
        exact ⟨none, 0, rfl, Nat.le_refl _, C_empty _, hb⟩
      · have K := rreduce_range k2 a b A c (l.map cv) lv w (cc hr hc).1 (cc hr hc).2 h2 hl
        rw [List.length_map] at K
        refine K.mono ?_
        rintro en w1 ⟨rfl, hb⟩
        exact ⟨none, 0, rfl, Nat.le_refl _, C_empty _, hb⟩
    · obtain ⟨n, rfl⟩ := Int.eq_ofNat_of_zero_le (show 0 ≤ lv by omega)
      have hn : n ≤ 4 := by omega
      obtain ⟨x, y, rfl, rfl, hv⟩ := chk_vim h
      obtain ⟨k1, e1⟩ := Ev.both (check_ev x y l) (red_ev (i := ⟨x, y, l⟩) hv n)
      obtain ⟨k2, e2⟩ := Ev.both (rcheck_ev x y l) (rred_ev (i := ⟨x, y, l⟩) hv n)
      rw [vim_chk hv] at e1 e2
      have p1 := e1 k1 (Nat.le_refl _)
      have p2 := e2 k2 (Nat.le_refl _)
      have hz := im_len (redS_ok (i := ⟨x, y, l⟩) hv n)
      refine ⟨((redS n ⟨x, y, l⟩).w : Int), ((redS n ⟨x, y, l⟩).h : Int), (redS n ⟨x, y, l⟩).p, 0, Nat.le_trans hz (by decide), fun A c w hr hc => ?_, fun A c w hr hc => ?_⟩
      · refine (reduce_ok k1 x y A c l n _ _ _ w hr hc p1.1 (lev_nat hn) (Nat.le_trans (vim_len hv) (by decide)) hn p1.2).mono ?_
        rintro en w1 ⟨v, rfl, hv, hb⟩
        obtain ⟨A1, c1, rfl, h1, h2⟩ := Kd.R_reads hv
        exact ⟨A1, c1, rfl, h1, h2, hb⟩
      · have K := rreduce_ok k2 x y A c (l.map cv) n _ _ _ w (cc hr hc).1 (cc hr hc).2 p2.1 hn p2.2
        rw [List.length_map] at K
        refine K.mono ?_
        rintro en w1 ⟨A1, c1, rfl, h1, h2, hb⟩
        rw [List.length_map] at h1 h2 ⊢
        exact ⟨A1, c1, rfl, h1, C_vc h2, hb⟩
  · refine ⟨0, 0, [], chk a b l, Nat.zero_le _, fun A c w hr hc => ?_, fun A c w hr hc => ?_⟩
    · refine (reduce_bad k1 a b A c l lv _ w hr hc h1 h).mono ?_
      rintro en w1 ⟨rfl, hb⟩
      exact ⟨none, 0, rfl, Nat.le_refl _, C_empty _, hb⟩
    · have K := rreduce_bad k2 a b A c (l.map cv) lv _ w (cc hr hc).1 (cc hr hc).2 h2 h
      rw [List.length_map] at K
      refine K.mono ?_
      rintro en w1 ⟨rfl, hb⟩
      exact ⟨none, 0, rfl, Nat.le_refl _, C_empty _, hb⟩

set_option maxHeartbeats 4000000 in
theorem levels_walk (a b : Int) (A : Option Addr) (c : Nat) (l : List Pa.S44) (lv : Int) (w0 : World) (hr : Kd.C Pa.k44 w0 A l.length l) (hc : l.length ≤ c) :
    Calls Tryz.prog 4 #[.agg #[.int .i64 a, .int .i64 b, .slice A l.length c], .int .i64 lv] w0 fun e w' => e = .returned (.bool true) ∧ Below w0.heap.size w0 w' := by
  obtain ⟨W, hW⟩ : ∃ W, W = w0.alloc (.cells #[.int .i64 a, .int .i64 b, .slice A l.length c] 31) := ⟨_, rfl⟩
  have hbW : Below w0.heap.size w0 W := by rw [hW]; exact bel_alloc _ _
  have hx : W.heap[w0.heap.size]? = some (.cells #[.int .i64 a, .int .i64 b, .slice A l.length c] 31 (0, 0)) := by rw [hW]; exact blk_new w0 _
  obtain ⟨p1, p2, p3, e1, hpl, F1, F2⟩ := half_any a b l
  obtain ⟨q1, q2, q3, e2, hql, F3, F4⟩ := reduce_any a b l lv
  obtain ⟨k1, s1⟩ := (same_ev p1 p2 hpl).got
  obtain ⟨k2, s2⟩ := (same_ev q1 q2 hql).got
  have HW := Lib.hid hW
  have HbW := Lib.hid hbW
  have Hx := Lib.hid hx
  have Hr := Lib.hid (Kd.C_below hr hbW)
  have G1 := Lib.hid F1
  have G2 := Lib.hid F2
  have G3 := Lib.hid F3
  have G4 := Lib.hid F4
  have S1 := Lib.hid s1
  have S2 := Lib.hid s2
  obtain ⟨c0, c1, c2, _⟩ := blk3 hx
  rw [hW] at c0 c1 c2
  clear hW hbW hx hr F1 F2 F3 F4 s1 s2 hpl hql
  go_enter Tryz.func4, Tryz.ntmps4
  go_wp2_with fail
  rw [← HW.out]
  have K := G1.out A c W Hr.out hc
  unfold Gives at K
  with_reducible refine K.mono ?_
  clear K
  rintro en w1 ⟨A1, cc1, rfl, hcc1, hC, hb⟩
  have Hx1 := Lib.hid (blk_in hb Hx.out)
  have Hr1 := Lib.hid (Kd.C_below Hr.out hb)
  have Hb1 := Lib.hid (HbW.out.trans (hb.mono HbW.out.size))
  have HC0_1 := Lib.hid hC
  clear hb hC
  have hbx := bel_alloc w1 (.cells #[.int .i64 p1, .int .i64 p2, .slice A1 p3.length cc1] 31)
  have hy : (w1.alloc (.cells #[.int .i64 p1, .int .i64 p2, .slice A1 p3.length cc1] 31)).heap[w1.heap.size]? = some (.cells #[.int .i64 p1, .int .i64 p2, .slice A1 p3.length cc1] 31 (0, 0)) := blk_new w1 _
  obtain ⟨w2, hw⟩ : ∃ u, u = w1.alloc (.cells #[.int .i64 p1, .int .i64 p2, .slice A1 p3.length cc1] 31) := ⟨_, rfl⟩
  rw [← hw] at hbx hy
  have HW2 := Lib.hid hw
  have Hx2 := Lib.hid (blk_in hbx Hx1.out)
  have Hr2 := Lib.hid (Kd.C_below Hr1.out hbx)
  have Hb2 := Lib.hid (Hb1.out.trans (hbx.mono Hb1.out.size))
  have HC0_2 := Lib.hid (Kd.C_below HC0_1.out hbx)
  have Hy0_2 := Lib.hid hy
  clear c0 c1 c2
  obtain ⟨c0, c1, c2, _⟩ := blk3 Hx2.out
  rw [hw] at c0 c1 c2
  clear hbx hy hw
  go_wp2_with fail
  rw [← HW2.out]
  have K := G2.out A c w2 Hr2.out hc
  unfold Gives at K
  with_reducible refine K.mono ?_
  clear K
  rintro en w3 ⟨A3, cc3, rfl, hcc3, hC, hb⟩
  have Hx3 := Lib.hid (blk_in hb Hx2.out)
  have Hr3 := Lib.hid (Kd.C_below Hr2.out hb)
  have Hb3 := Lib.hid (Hb2.out.trans (hb.mono Hb2.out.size))
  have Hy0_3 := Lib.hid (blk_in hb Hy0_2.out)
  have HC0_3 := Lib.hid (Kd.C_below HC0_2.out hb)
  have HC1_3 := Lib.hid hC
  clear hb hC
  have hbx := bel_alloc w3 (.cells #[.int .i64 p1, .int .i64 p2, .slice A3 p3.length cc3] 31)
  have hy : (w3.alloc (.cells #[.int .i64 p1, .int .i64 p2, .slice A3 p3.length cc3] 31)).heap[w3.heap.size]? = some (.cells #[.int .i64 p1, .int .i64 p2, .slice A3 p3.length cc3] 31 (0, 0)) := blk_new w3 _
  obtain ⟨w4, hw⟩ : ∃ u, u = w3.alloc (.cells #[.int .i64 p1, .int .i64 p2, .slice A3 p3.length cc3] 31) := ⟨_, rfl⟩
  rw [← hw] at hbx hy
  have HW4 := Lib.hid hw
  have Hx4 := Lib.hid (blk_in hbx Hx3.out)
  have Hr4 := Lib.hid (Kd.C_below Hr3.out hbx)
  have Hb4 := Lib.hid (Hb3.out.trans (hbx.mono Hb3.out.size))
  have Hy0_4 := Lib.hid (blk_in hbx Hy0_3.out)
  have HC0_4 := Lib.hid (Kd.C_below HC0_3.out hbx)
  have HC1_4 := Lib.hid (Kd.C_below HC1_3.out hbx)
  have Hy1_4 := Lib.hid hy
  clear c0 c1 c2
  obtain ⟨c0, c1, c2, _⟩ := blk3 Hx4.out
  rw [hw] at c0 c1 c2
  clear hbx hy hw
  go_wp2_with fail
  rw [← HW4.out]
  have K := G3.out A c w4 Hr4.out hc
  unfold Gives at K
  with_reducible refine K.mono ?_
  clear K
  rintro en w5 ⟨A5, cc5, rfl, hcc5, hC, hb⟩
  have Hx5 := Lib.hid (blk_in hb Hx4.out)
  have Hr5 := Lib.hid (Kd.C_below Hr4.out hb)
  have Hb5 := Lib.hid (Hb4.out.trans (hb.mono Hb4.out.size))
  have Hy0_5 := Lib.hid (blk_in hb Hy0_4.out)
  have HC0_5 := Lib.hid (Kd.C_below HC0_4.out hb)
  have Hy1_5 := Lib.hid (blk_in hb Hy1_4.out)
  have HC1_5 := Lib.hid (Kd.C_below HC1_4.out hb)
  have HC2_5 := Lib.hid hC
  clear hb hC
  have hbx := bel_alloc w5 (.cells #[.int .i64 q1, .int .i64 q2, .slice A5 q3.length cc5] 31)
  have hy : (w5.alloc (.cells #[.int .i64 q1, .int .i64 q2, .slice A5 q3.length cc5] 31)).heap[w5.heap.size]? = some (.cells #[.int .i64 q1, .int .i64 q2, .slice A5 q3.length cc5] 31 (0, 0)) := blk_new w5 _
  obtain ⟨w6, hw⟩ : ∃ u, u = w5.alloc (.cells #[.int .i64 q1, .int .i64 q2, .slice A5 q3.length cc5] 31) := ⟨_, rfl⟩
  rw [← hw] at hbx hy
  have HW6 := Lib.hid hw
  have Hx6 := Lib.hid (blk_in hbx Hx5.out)
  have Hr6 := Lib.hid (Kd.C_below Hr5.out hbx)
  have Hb6 := Lib.hid (Hb5.out.trans (hbx.mono Hb5.out.size))
  have Hy0_6 := Lib.hid (blk_in hbx Hy0_5.out)
  have Hy1_6 := Lib.hid (blk_in hbx Hy1_5.out)
  have HC0_6 := Lib.hid (Kd.C_below HC0_5.out hbx)
  have HC1_6 := Lib.hid (Kd.C_below HC1_5.out hbx)
  have HC2_6 := Lib.hid (Kd.C_below HC2_5.out hbx)
  have Hy2_6 := Lib.hid hy
  clear c0 c1 c2
  obtain ⟨c0, c1, c2, _⟩ := blk3 Hx6.out
  rw [hw] at c0 c1 c2
  clear hbx hy hw
  go_wp2_with fail
  rw [← HW6.out]
  have K := G4.out A c w6 Hr6.out hc
  unfold Gives at K
  with_reducible refine K.mono ?_
  clear K
  rintro en w7 ⟨A7, cc7, rfl, hcc7, hC, hb⟩
  have Hx7 := Lib.hid (blk_in hb Hx6.out)
  have Hr7 := Lib.hid (Kd.C_below Hr6.out hb)
  have Hb7 := Lib.hid (Hb6.out.trans (hb.mono Hb6.out.size))
  have Hy0_7 := Lib.hid (blk_in hb Hy0_6.out)
  have HC0_7 := Lib.hid (Kd.C_below HC0_6.out hb)
  have Hy1_7 := Lib.hid (blk_in hb Hy1_6.out)
  have HC1_7 := Lib.hid (Kd.C_below HC1_6.out hb)
  have Hy2_7 := Lib.hid (blk_in hb Hy2_6.out)
  have HC2_7 := Lib.hid (Kd.C_below HC2_6.out hb)
  have HC3_7 := Lib.hid hC
  clear hb hC
  have hbx := bel_alloc w7 (.cells #[.int .i64 q1, .int .i64 q2, .slice A7 q3.length cc7] 31)
  have hy : (w7.alloc (.cells #[.int .i64 q1, .int .i64 q2, .slice A7 q3.length cc7] 31)).heap[w7.heap.size]? = some (.cells #[.int .i64 q1, .int .i64 q2, .slice A7 q3.length cc7] 31 (0, 0)) := blk_new w7 _
  obtain ⟨w8, hw⟩ : ∃ u, u = w7.alloc (.cells #[.int .i64 q1, .int .i64 q2, .slice A7 q3.length cc7] 31) := ⟨_, rfl⟩
  rw [← hw] at hbx hy
  have HW8 := Lib.hid hw
  have Hx8 := Lib.hid (blk_in hbx Hx7.out)
  have Hr8 := Lib.hid (Kd.C_below Hr7.out hbx)
  have Hb8 := Lib.hid (Hb7.out.trans (hbx.mono Hb7.out.size))
  have Hy0_8 := Lib.hid (blk_in hbx Hy0_7.out)
  have Hy1_8 := Lib.hid (blk_in hbx Hy1_7.out)
  have Hy2_8 := Lib.hid (blk_in hbx Hy2_7.out)
  have HC0_8 := Lib.hid (Kd.C_below HC0_7.out hbx)
  have HC1_8 := Lib.hid (Kd.C_below HC1_7.out hbx)
  have HC2_8 := Lib.hid (Kd.C_below HC2_7.out hbx)
  have HC3_8 := Lib.hid (Kd.C_below HC3_7.out hbx)
  have Hy3_8 := Lib.hid hy
  clear c0 c1 c2
  obtain ⟨c0, c1, c2, _⟩ := blk3 Hx8.out
  obtain ⟨y00, y01, y02, _⟩ := blk3 Hy0_8.out
  rw [hw] at y00 y01 y02
  obtain ⟨y10, y11, y12, _⟩ := blk3 Hy1_8.out
  rw [hw] at y10 y11 y12
  obtain ⟨y20, y21, y22, _⟩ := blk3 Hy2_8.out
  rw [hw] at y20 y21 y22
  obtain ⟨y30, y31, y32, _⟩ := blk3 Hy3_8.out
  rw [hw] at y30 y31 y32
  rw [hw] at c0 c1 c2
  clear hbx hy hw
  go_wp2_with fail
  rw [← HW8.out]
  have K := Pa.imageeditorlaw35_same.calls k1 p1 p2 A1 cc1 p3 p1 p2 A3 cc3 p3 true w8 HC0_8.out hcc1 HC1_8.out hcc3 S1.out
  with_reducible refine K.mono ?_
  clear K
  rintro en w9 ⟨rfl, hb⟩
  have HC2_9 := Lib.hid (Kd.C_below HC2_8.out hb)
  have HC3_9 := Lib.hid (Kd.C_below HC3_8.out hb)
  have Hy2_9 := Lib.hid (blk_in hb Hy2_8.out)
  have Hy3_9 := Lib.hid (blk_in hb Hy3_8.out)
  have Hb9 := Lib.hid (Hb8.out.trans (hb.mono Hb8.out.size))
  clear hb c0 c1 c2 y00 y01 y02 y10 y11 y12 y20 y21 y22 y30 y31 y32
  obtain ⟨y20, y21, y22, _⟩ := blk3 Hy2_9.out
  obtain ⟨y30, y31, y32, _⟩ := blk3 Hy3_9.out
  go_wp2_with fail
  have K := Pa.imageeditorlaw35_same.calls k2 q1 q2 A5 cc5 q3 q1 q2 A7 cc7 q3 true w9 HC2_9.out hcc5 HC3_9.out hcc7 S2.out
  with_reducible refine K.mono ?_
  clear K
  rintro en w10 ⟨rfl, hb⟩
  have Hb10 := Lib.hid (Hb9.out.trans (hb.mono Hb9.out.size))
  clear hb
  go_wp2_with fail
  have K := awake_any w10
  with_reducible refine K.mono ?_
  clear K
  rintro en w11 ⟨rfl, hb⟩
  have Hb11 := Lib.hid (Hb10.out.trans (hb.mono Hb10.out.size))
  clear hb
  go_wp2
  go_ret
  exact ⟨rfl, Hb11.out⟩
end Go.Proofs.YtkchkfmggbejfaaGreatDoor
