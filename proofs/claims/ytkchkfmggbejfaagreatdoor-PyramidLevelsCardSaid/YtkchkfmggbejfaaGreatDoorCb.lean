/- What the reference's mean and half compute. -/
import Derived.Test.YtkchkfmggbejfaaGreatDoorCa
namespace Go.Proofs.YtkchkfmggbejfaaGreatDoor
open Go.RowKit Go.Proofs.YtkchkfmggbejfaaGreatDoorW.PrintWords Go.Proofs.YtkchkfmggbejfaaGreatDoorW.PrintLast Go.Proofs.YtkchkfmggbejfaaGreatDoorW.PrintMore
set_option linter.unusedSimpArgs false

theorem rmean_l0 {l : List Pa.S44} (hv : ∀ p ∈ l, vpx p) (h0 : 0 < l.length) (h1 : l.length ≤ 1000) : ∀ (rest pre : List Pa.S44), l = pre ++ rest → Ev (fun k => Pc.imageeditorref35_mean.l0 k (l.map cv) (rS pre) (gS pre) (bS pre) (eS pre) (l.length : Int) (pre.length : Int)) (tup (meanS l))
  | [], pre, e => by
    rw [List.append_nil] at e
    subst e
    refine Ev.step ?_
    simp only [Pc.imageeditorref35_mean.l0]
    refine Ev.neg (by omega) ?_
    rw [List.length_map]
    refine Ev.bind (rdiv_ev (by omega) (eS_in hv h1).1 (by have := (eS_in hv h1).2; omega) (by omega)) ?_
    by_cases hz : dv (eS l) l.length = 0
    · have hj : Ev (fun k => Pc.imageeditorref35_mean.j1 k (rS l) (gS l) (bS l) (eS l) (dv (eS l) l.length) true) (tup (meanS l)) := by
        refine Ev.step ?_
        simp only [Pc.imageeditorref35_mean.j1]
        have e : tup (meanS l) = (0, 0, 0, 0) := by unfold meanS; rw [if_pos hz]; rfl
        rw [e]
        exact Ev.pos (by trivial) (Ev.all fun _ => rfl)
      by_cases he : eS l = 0
      · exact Ev.pos he hj
      · refine Ev.neg he ?_
        have hb : (dv (eS l) l.length == 0) = true := beq_iff_eq.2 hz
        rw [hb]
        exact hj
    · have hp := eS_gt hv h0 hz
      have he := (eS_in hv h1).2
      have hr := pS_in (g := fun p => p.f0) hv (fun p hp => (hv p hp).h0) h1
      have hg := pS_in (g := fun p => p.f1) hv (fun p hp => (hv p hp).h1) h1
      have hb := pS_in (g := fun p => p.f2) hv (fun p hp => (hv p hp).h2) h1
      have e : tup (meanS l) = (dv (rS l) (eS l), dv (gS l) (eS l), dv (bS l) (eS l), dv (eS l) l.length) := by unfold meanS; rw [if_neg hz]; rfl
      rw [e]
      refine Ev.neg (by omega) ?_
      have hbz : (dv (eS l) l.length == 0) = false := beq_eq_false_iff_ne.2 hz
      rw [hbz]
      refine Ev.step ?_
      simp only [Pc.imageeditorref35_mean.j1]
      refine Ev.neg (by decide) ?_
      refine Ev.bind (rdiv_ev hp hr.1 (by have := hr.2; show sm _ _ ≤ _; omega) (by omega)) ?_
      refine Ev.bind (rdiv_ev hp hg.1 (by have := hg.2; show sm _ _ ≤ _; omega) (by omega)) ?_
      refine Ev.bind (rdiv_ev hp hb.1 (by have := hb.2; show sm _ _ ≤ _; omega) (by omega)) ?_
      exact Ev.all fun k => rfl
  | p :: r, pre, e => by
    have hlen : l.length = pre.length + (r.length + 1) := by rw [e]; simp
    have hpre : ∀ q ∈ pre, vpx q := fun q hq => hv q (by rw [e]; exact List.mem_append_left _ hq)
    have hp : vpx p := hv p (by rw [e]; simp)
    have hpl : pre.length ≤ 1000 := by omega
    have ih := rmean_l0 hv h0 h1 r (pre ++ [p]) (by rw [e]; simp)
    refine Ev.step ?_
    simp only [Pc.imageeditorref35_mean.l0]
    refine Ev.pos (by omega) (Ev.pos (by omega) (Ev.pos (by rw [List.length_map]; omega) ?_))
    rw [rrd_at e]
    have he := eS_in hpre hpl
    have hr := pS_in (g := fun p => p.f0) hpre (fun p hp => (hpre p hp).h0) hpl
    have hg := pS_in (g := fun p => p.f1) hpre (fun p hp => (hpre p hp).h1) hpl
    have hb := pS_in (g := fun p => p.f2) hpre (fun p hp => (hpre p hp).h2) hpl
    have m0 := mul_in hp.h0 hp.h3
    have m1 := mul_in hp.h1 hp.h3
    have m2 := mul_in hp.h2 hp.h3
    have m3 := hp.h3
    have a3 : wrap64 (eS pre + (cv p).f3) = eS (pre ++ [p]) := by
      show wrap64 (eS pre + p.f3) = _
      rw [w64 (by have := m3.1; omega) (by have := m3.2; omega)]; exact (sm_snoc _ _ _).symm
    have a0 : wrap64 (rS pre + wrap64 ((cv p).f0 * (cv p).f3)) = rS (pre ++ [p]) := by
      show wrap64 (rS pre + wrap64 (p.f0 * p.f3)) = _
      rw [w64 (x := p.f0 * p.f3) (by omega) (by omega), w64 (by unfold rS; omega) (by unfold rS; omega)]; exact (sm_snoc (fun p => p.f0 * p.f3) _ _).symm
    have a1 : wrap64 (gS pre + wrap64 ((cv p).f1 * (cv p).f3)) = gS (pre ++ [p]) := by
      show wrap64 (gS pre + wrap64 (p.f1 * p.f3)) = _
      rw [w64 (x := p.f1 * p.f3) (by omega) (by omega), w64 (by unfold gS; omega) (by unfold gS; omega)]; exact (sm_snoc (fun p => p.f1 * p.f3) _ _).symm
    have a2 : wrap64 (bS pre + wrap64 ((cv p).f2 * (cv p).f3)) = bS (pre ++ [p]) := by
      show wrap64 (bS pre + wrap64 (p.f2 * p.f3)) = _
      rw [w64 (x := p.f2 * p.f3) (by omega) (by omega), w64 (by unfold bS; omega) (by unfold bS; omega)]; exact (sm_snoc (fun p => p.f2 * p.f3) _ _).symm
    have a4 : wrap64 ((pre.length : Int) + 1) = ((pre ++ [p]).length : Int) := by
      rw [w64 (by omega) (by omega), List.length_append]; rfl
    rw [a3, a0, a1, a2, a4]
    exact ih
theorem rmean_ev {l : List Pa.S44} (hv : ∀ p ∈ l, vpx p) (h0 : 0 < l.length) (h1 : l.length ≤ 1000) : Ev (fun k => Pc.imageeditorref35_mean.f k (l.map cv)) (tup (meanS l)) := by
  have h := rmean_l0 hv h0 h1 l [] rfl
  unfold Pc.imageeditorref35_mean.f
  rw [List.length_map]
  exact h

/-! ### half -/
section
variable {a b : Nat} {l : List Pa.S44} {T : Int × Int × List Pc.S44 × Int} {W H W2 H2 : Int} {out : List Pc.S44}
theorem rl2_step (hi : vim a b l) {x y dx dy : Nat} {n : Int} {acc : List Pa.S44} (hx : x ≤ 256) (hy : y ≤ 256) (hn0 : 0 ≤ n) (hn4 : n < 4) (hdx : Int.tmod n 2 = (dx : Int)) (hdy : wrap64 (Int.tdiv n 2) = (dy : Int)) (hd1 : dx ≤ 1) (hd2 : dy ≤ 1) (hacc : acc.length ≤ 1000)
    (h : Ev (fun k => Pc.imageeditorref35_Half.l2 k W H y x ((acc ++ cellS a b l (2 * x + dx) (2 * y + dy)).map cv) (n + 1) a b (l.map cv) W2 H2 out) T) :
    Ev (fun k => Pc.imageeditorref35_Half.l2 k W H y x (acc.map cv) n a b (l.map cv) W2 H2 out) T := by
  refine Ev.step ?_
  simp only [Pc.imageeditorref35_Half.l2]
  refine Ev.pos hn4 ?_
  rw [hdx, hdy, w2 (by omega : x ≤ 1000), w2 (by omega : y ≤ 1000), wadd (by omega : 2 * x ≤ 200000) (by omega), wadd (by omega : 2 * y ≤ 200000) (by omega), w64 (x := n + 1) (by omega) (by omega)]
  by_cases h1 : 2 * x + dx < a
  · by_cases h2 : 2 * y + dy < b
    · obtain ⟨p, hp, e⟩ := cell_one hi.len h1 h2
      rw [e, List.map_append] at h
      refine Ev.pos (by omega) (Ev.pos (by omega) ?_)
      refine Ev.bind (rat_ev hi h1 h2 hp) ?_
      exact Ev.pos (by rw [List.length_map]; omega) h
    · have e : cellS a b l (2 * x + dx) (2 * y + dy) = [] := by unfold cellS; rw [if_neg (fun h => h2 h.2)]
      rw [e, List.append_nil] at h
      exact Ev.pos (by omega) (Ev.neg (by omega) h)
  · have e : cellS a b l (2 * x + dx) (2 * y + dy) = [] := by unfold cellS; rw [if_neg (fun h => h1 h.1)]
    rw [e, List.append_nil] at h
    exact Ev.neg (by omega) h
theorem rl2_all (hi : vim a b l) {x y : Nat} (hx : x < (a + 1) / 2) (hy : y < (b + 1) / 2) (hout : out.length ≤ 100000)
    (h : Ev (fun k => Pc.imageeditorref35_Half.l1 k W H y (wrap64 ((x : Int) + 1)) a b (l.map cv) W2 H2 (out ++ [cv (meanS (blkS a b l x y))])) T) :
    Ev (fun k => Pc.imageeditorref35_Half.l2 k W H y x [] 0 a b (l.map cv) W2 H2 out) T := by
  have ha := hi.ha
  have hb := hi.hb
  have hm : ∀ p ∈ blkS a b l x y, vpx p := fun p hp => hi.px p (blk_mem hp)
  have h0 := blk_pos hi.len hx hy
  have h4 := blk_le a b l x y
  have c0 := cell_le a b l (2 * x) (2 * y)
  have c1 := cell_le a b l (2 * x + 1) (2 * y)
  have c2 := cell_le a b l (2 * x) (2 * y + 1)
  have e : blkS a b l x y = ((([] ++ cellS a b l (2 * x + 0) (2 * y + 0)) ++ cellS a b l (2 * x + 1) (2 * y + 0)) ++ cellS a b l (2 * x + 0) (2 * y + 1)) ++ cellS a b l (2 * x + 1) (2 * y + 1) := by
    unfold blkS; simp [List.append_assoc]
  refine rl2_step (acc := []) (dx := 0) (dy := 0) (n := 0) hi (by omega) (by omega) (by omega) (by omega) rfl (by rw [w64 (by decide) (by decide)]; rfl) (by omega) (by omega) (by simp) ?_
  refine rl2_step (dx := 1) (dy := 0) (n := 0 + 1) hi (by omega) (by omega) (by omega) (by omega) rfl (by rw [w64 (by decide) (by decide)]; rfl) (by omega) (by omega) (by simp; omega) ?_
  refine rl2_step (dx := 0) (dy := 1) (n := 0 + 1 + 1) hi (by omega) (by omega) (by omega) (by omega) rfl (by rw [w64 (by decide) (by decide)]; rfl) (by omega) (by omega) (by simp; omega) ?_
  refine rl2_step (dx := 1) (dy := 1) (n := 0 + 1 + 1 + 1) hi (by omega) (by omega) (by omega) (by omega) rfl (by rw [w64 (by decide) (by decide)]; rfl) (by omega) (by omega) (by simp; omega) ?_
  rw [← e]
  refine Ev.step ?_
  simp only [Pc.imageeditorref35_Half.l2]
  refine Ev.neg (by omega) ?_
  refine Ev.bind (rmean_ev hm h0 (by omega)) ?_
  exact Ev.pos (by omega) h
end
theorem rl1_all {a b : Nat} {l : List Pa.S44} {T : Int × Int × List Pc.S44 × Int} {H W2 H2 : Int} (hi : vim a b l) {y : Nat} (hy : y < (b + 1) / 2)
    (h : Ev (fun k => Pc.imageeditorref35_Half.l0 k (((a + 1) / 2 : Nat) : Int) H ((y + 1 : Nat) : Int) a b (l.map cv) W2 H2 ((grid ((a + 1) / 2) (y + 1) fun x y => meanS (blkS a b l x y)).map cv)) T) :
    ∀ (d x : Nat), x + d = (a + 1) / 2 → Ev (fun k => Pc.imageeditorref35_Half.l1 k (((a + 1) / 2 : Nat) : Int) H y x a b (l.map cv) W2 H2 ((grid ((a + 1) / 2) y (fun x y => meanS (blkS a b l x y)) ++ (List.range x).map fun x => meanS (blkS a b l x y)).map cv)) T
  | 0, x, hd => by
    obtain rfl : x = (a + 1) / 2 := by omega
    refine Ev.step ?_
    simp only [Pc.imageeditorref35_Half.l1]
    refine Ev.neg (by omega) ?_
    have hb := hi.hb
    have e : wrap64 ((y : Int) + 1) = ((y + 1 : Nat) : Int) := by rw [w64 (by omega) (by omega)]; omega
    rw [e]
    rw [grid_succ] at h
    exact h
  | d + 1, x, hd => by
    have ih := rl1_all hi hy h d (x + 1) (by omega)
    have ha := hi.ha
    have hb := hi.hb
    refine Ev.step ?_
    simp only [Pc.imageeditorref35_Half.l1]
    refine Ev.pos (by omega) ?_
    have hlen : ((grid ((a + 1) / 2) y (fun x y => meanS (blkS a b l x y)) ++ (List.range x).map fun x => meanS (blkS a b l x y)).map cv).length ≤ 100000 := by
      rw [List.length_map, List.length_append, grid_length, List.length_map, List.length_range]
      have : y * ((a + 1) / 2) ≤ 256 * 256 := Nat.mul_le_mul (by omega) (by omega)
      omega
    refine rl2_all hi (by omega) hy hlen ?_
    have e : wrap64 ((x : Int) + 1) = ((x + 1 : Nat) : Int) := by rw [w64 (by omega) (by omega)]; omega
    rw [e]
    rw [List.range_succ, List.map_append (l₁ := List.range x), ← List.append_assoc, List.map_append (f := cv)] at ih
    exact ih
theorem rl0_all {a b : Nat} {l : List Pa.S44} {H2 : Int} (hi : vim a b l) : ∀ (d y : Nat), y + d = (b + 1) / 2 → Ev (fun k => Pc.imageeditorref35_Half.l0 k (((a + 1) / 2 : Nat) : Int) (((b + 1) / 2 : Nat) : Int) y a b (l.map cv) (((a + 1) / 2 : Nat) : Int) H2 ((grid ((a + 1) / 2) y (fun x y => meanS (blkS a b l x y))).map cv)) ((((a + 1) / 2 : Nat) : Int), H2, (halfS a b l).map cv, 0)
  | 0, y, hd => by
    obtain rfl : y = (b + 1) / 2 := by omega
    refine Ev.step ?_
    simp only [Pc.imageeditorref35_Half.l0]
    exact Ev.neg (by omega) (Ev.all fun _ => rfl)
  | d + 1, y, hd => by
    have ih := rl0_all (H2 := H2) hi d (y + 1) (by omega)
    refine Ev.step ?_
    simp only [Pc.imageeditorref35_Half.l0]
    refine Ev.pos (by omega) ?_
    have hb := hi.hb
    have e := rl1_all (T := ((((a + 1) / 2 : Nat) : Int), H2, (halfS a b l).map cv, 0)) (H := (((b + 1) / 2 : Nat) : Int)) hi (y := y) (by omega) ih ((a + 1) / 2) 0 (Nat.zero_add _)
    simpa using e
theorem rsize1_l0 (x y : Nat) (hx : x ≤ 256) (hy : y ≤ 256) : Ev (fun k => Pc.imageeditorref35_Size.l0 k x y 1 0) ((((x + 1) / 2 : Nat) : Int), (((y + 1) / 2 : Nat) : Int)) := by
  refine Ev.step ?_
  simp only [Pc.imageeditorref35_Size.l0]
  refine Ev.pos (by decide) ?_
  rw [half_nat hx, half_nat hy]
  refine Ev.step ?_
  simp only [Pc.imageeditorref35_Size.l0]
  exact Ev.neg (by rw [w64 (by decide) (by decide)]; decide) (Ev.all fun _ => rfl)
theorem rhalf_ev {a b : Nat} {l : List Pa.S44} (hi : vim a b l) : Ev (fun k => Pc.imageeditorref35_Half.f k a b (l.map cv)) ((((a + 1) / 2 : Nat) : Int), (((b + 1) / 2 : Nat) : Int), (halfS a b l).map cv, 0) := by
  have h := rcheck_ev a b l
  rw [vim_chk hi] at h
  unfold Pc.imageeditorref35_Half.f
  refine Ev.bind h (Ev.pos rfl ?_)
  have ha := hi.ha
  have hb := hi.hb
  have hs : Ev (fun k => Pc.imageeditorref35_Size.f k a b 1) ((((a + 1) / 2 : Nat) : Int), (((b + 1) / 2 : Nat) : Int)) := by
    unfold Pc.imageeditorref35_Size.f Pc.imageeditorref01_Clamp.f
    simp only [Option.bind_some]
    have e1 : mn 256 (mx (a : Int) 0) = a := lim_id (Int.natCast_nonneg _) (Int.ofNat_le.2 ha)
    have e2 : mn 256 (mx (b : Int) 0) = b := lim_id (Int.natCast_nonneg _) (Int.ofNat_le.2 hb)
    have e3 : mn 4 (mx 1 0) = 1 := by decide
    rw [e1, e2, e3]
    exact rsize1_l0 a b ha hb
  refine Ev.bind hs ?_
  exact rl0_all hi _ 0 (Nat.zero_add _)
theorem rhalf_bad {a b : Int} {l : List Pa.S44} (h : chk a b l ≠ 0) : Ev (fun k => Pc.imageeditorref35_Half.f k a b (l.map cv)) (0, 0, [], chk a b l) := by
  unfold Pc.imageeditorref35_Half.f
  exact Ev.bind (rcheck_ev a b l) (Ev.neg h (Ev.all fun _ => rfl))
theorem Half_ev {a b : Nat} {l : List Pa.S44} (hi : vim a b l) : Ev (fun k => Pa.pyramid_Half.f k a b l) ((((a + 1) / 2 : Nat) : Int), (((b + 1) / 2 : Nat) : Int), halfS a b l, 0) := by
  have h := check_ev a b l
  rw [vim_chk hi] at h
  unfold Pa.pyramid_Half.f
  exact Ev.bind h (Ev.pos rfl (Ev.bind (half_ev hi) (Ev.all fun _ => rfl)))
theorem Half_bad {a b : Int} {l : List Pa.S44} (h : chk a b l ≠ 0) : Ev (fun k => Pa.pyramid_Half.f k a b l) (0, 0, [], chk a b l) := by
  unfold Pa.pyramid_Half.f
  exact Ev.bind (check_ev a b l) (Ev.neg h (Ev.all fun _ => rfl))
end Go.Proofs.YtkchkfmggbejfaaGreatDoor
