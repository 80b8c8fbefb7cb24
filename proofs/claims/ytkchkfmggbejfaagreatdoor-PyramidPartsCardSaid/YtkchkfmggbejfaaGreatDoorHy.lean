/- What the program's half computes, and its check of an image. -/
import Derived.Test.YtkchkfmggbejfaaGreatDoorHx
import Derived.Test.YtkchkfmggbejfaaGreatDoorPax5
import Derived.Test.YtkchkfmggbejfaaGreatDoorRe
namespace Go.Proofs.YtkchkfmggbejfaaGreatDoor
open Go.RowKit Go.Proofs.YtkchkfmggbejfaaGreatDoorW.PrintWords Go.Proofs.YtkchkfmggbejfaaGreatDoorW.PrintLast Go.Proofs.YtkchkfmggbejfaaGreatDoorW.PrintMore
set_option linter.unusedSimpArgs false

/-! ### half -/
theorem take_two {l : List Pa.S44} {a b x v : Nat} (hl : l.length = b * a) (hx : 2 * x < a) (hv : v < b) :
    (l.take (v * a + min (2 * x + 2) a)).drop (v * a + 2 * x) = cellS a b l (2 * x) v ++ cellS a b l (2 * x + 1) v := by
  have h1 : v * a + 2 * x < l.length := by rw [hl]; exact idx_lt hx hv
  obtain ⟨p, hp, e⟩ := cell_one hl hx hv
  have hpe : l[v * a + 2 * x] = p := by rw [List.getElem?_eq_getElem h1] at hp; exact Option.some.inj hp
  rw [List.drop_take, List.drop_eq_getElem_cons h1, e, hpe]
  by_cases h2 : 2 * x + 1 < a
  · have h3 : v * a + 2 * x + 1 < l.length := by have := idx_lt h2 hv; omega
    obtain ⟨q, hq, e'⟩ := cell_one hl h2 hv
    have hqe : l[v * a + 2 * x + 1] = q := by rw [← Nat.add_assoc, List.getElem?_eq_getElem h3] at hq; exact Option.some.inj hq
    have e2 : v * a + min (2 * x + 2) a - (v * a + 2 * x) = 2 := by omega
    rw [e2, e', List.drop_eq_getElem_cons h3, hqe]; rfl
  · have e2 : v * a + min (2 * x + 2) a - (v * a + 2 * x) = 1 := by omega
    rw [e2]
    have e3 : cellS a b l (2 * x + 1) v = [] := by unfold cellS; rw [if_neg (by omega)]
    rw [e3]; rfl
theorem cell_le (a b : Nat) (l : List Pa.S44) (x y : Nat) : (cellS a b l x y).length ≤ 1 := by
  unfold cellS
  split
  · cases l[y * a + x]? <;> simp
  · simp
theorem blk_le (a b : Nat) (l : List Pa.S44) (x y : Nat) : (blkS a b l x y).length ≤ 4 := by
  have h1 := cell_le a b l (2 * x) (2 * y)
  have h2 := cell_le a b l (2 * x + 1) (2 * y)
  have h3 := cell_le a b l (2 * x) (2 * y + 1)
  have h4 := cell_le a b l (2 * x + 1) (2 * y + 1)
  unfold blkS
  simp only [List.length_append]
  omega
theorem w2 {x : Nat} (h : x ≤ 1000) : wrap64 (2 * (x : Int)) = ((2 * x : Nat) : Int) := by rw [w64 (by omega) (by omega)]; omega
theorem w22 {x : Nat} (h : x ≤ 1000) : wrap64 (((2 * x : Nat) : Int) + 2) = ((2 * x + 2 : Nat) : Int) := by rw [w64 (by omega) (by omega)]; omega
theorem wmul {v a : Nat} (h : v * a ≤ 100000) : wrap64 ((v : Int) * (a : Int)) = ((v * a : Nat) : Int) := by rw [← Int.natCast_mul]; exact w64 (by omega) (by omega)
theorem wadd {m n : Nat} (hm : m ≤ 200000) (hn : n ≤ 200000) : wrap64 ((m : Int) + (n : Int)) = ((m + n : Nat) : Int) := by rw [w64 (by omega) (by omega)]; omega
theorem wone {m : Nat} (hm : m ≤ 200000) : wrap64 ((m : Int) + 1) = ((m + 1 : Nat) : Int) := by rw [w64 (by omega) (by omega)]; omega
theorem mn_nat {m n : Nat} : mn (m : Int) (n : Int) = ((min m n : Nat) : Int) := by unfold mn; split <;> omega
section
variable {a b : Nat} {l : List Pa.S44} {T : Int × Int × List Pa.S44} {X18 X19 X23 X24 W2 H2 : Int} {out : List Pa.S44}
theorem l2_step (hi : vim a b l) {x v y : Nat} (hx : 2 * x < a) (hv : v < b) (hvy : v < 2 * y + 2) (hy : y ≤ 256) {acc : List Pa.S44} (hacc : acc.length ≤ 1000)
    (h : Ev (fun k => Pa.pyramid_half.l2 k y x (acc ++ (cellS a b l (2 * x) v ++ cellS a b l (2 * x + 1) v)) ((v + 1 : Nat) : Int) X18 X19 X23 X24 a b l W2 H2 out) T) :
    Ev (fun k => Pa.pyramid_half.l2 k y x acc (v : Int) X18 X19 X23 X24 a b l W2 H2 out) T := by
  have ha := hi.ha
  have hb := hi.hb
  have hva : v * a ≤ 256 * 256 := Nat.mul_le_mul (by omega) ha
  have hl1 := idx_lt (w := a) (h := b) hx hv
  have hlen := hi.len
  have hval : v * a + a ≤ b * a := by
    have : (v + 1) * a ≤ b * a := Nat.mul_le_mul_right _ hv
    rwa [Nat.succ_mul] at this
  refine Ev.step ?_
  simp only [Pa.pyramid_half.l2]
  rw [w2 (by omega : y ≤ 1000), w22 (by omega : y ≤ 1000), w2 (by omega : x ≤ 1000), w22 (by omega : x ≤ 1000), wmul (by omega : v * a ≤ 100000), mn_nat, mn_nat, wadd (by omega : v * a ≤ 200000) (by omega : 2 * x ≤ 200000), wadd (by omega : v * a ≤ 200000) (by omega : min (2 * x + 2) a ≤ 200000), wone (by omega : v ≤ 200000)]
  refine Ev.pos (by omega) (Ev.pos (by omega) (Ev.pos (by omega) (Ev.pos (by omega) ?_)))
  rw [Int.toNat_natCast, Int.toNat_natCast, take_two hlen hx hv]
  simp only [Option.bind_some]
  have h1 := cell_le a b l (2 * x) v
  have h2 := cell_le a b l (2 * x + 1) v
  exact Ev.pos (by rw [List.length_append]; omega) h
theorem l2_done {x y : Nat} {v : Int} {acc : List Pa.S44} (hd : 2 * (y : Int) + 2 ≤ v ∨ (b : Int) ≤ v) (hy : y ≤ 256) (hacc : ∀ p ∈ acc, vpx p) (h0 : 0 < acc.length) (h1 : acc.length ≤ 1000) (hout : out.length ≤ 100000)
    (h : Ev (fun k => Pa.pyramid_half.l1 k y X18 X19 X23 (wrap64 (X24 + 1)) a b l W2 H2 (out ++ [meanS acc])) T) :
    Ev (fun k => Pa.pyramid_half.l2 k y x acc v X18 X19 X23 X24 a b l W2 H2 out) T := by
  refine Ev.step ?_
  simp only [Pa.pyramid_half.l2]
  rw [w2 (by omega), w22 (by omega), mn_nat]
  refine Ev.neg (by omega) ?_
  refine Ev.bind (mean_ev hacc h0 h1) ?_
  exact Ev.pos (by omega) h
theorem l2_all (hi : vim a b l) {x y : Nat} (hx : x < (a + 1) / 2) (hy : y < (b + 1) / 2) (hout : out.length ≤ 100000)
    (h : Ev (fun k => Pa.pyramid_half.l1 k y X18 X19 X23 (wrap64 (X24 + 1)) a b l W2 H2 (out ++ [meanS (blkS a b l x y)])) T) :
    Ev (fun k => Pa.pyramid_half.l2 k y x [] (wrap64 (2 * (y : Int))) X18 X19 X23 X24 a b l W2 H2 out) T := by
  have hb := hi.hb
  have hm : ∀ p ∈ blkS a b l x y, vpx p := fun p hp => hi.px p (blk_mem hp)
  have h0 := blk_pos hi.len hx hy
  have h4 := blk_le a b l x y
  rw [w2 (by omega)]
  refine l2_step hi (by omega) (by omega) (by omega) (by omega) (by simp) ?_
  rw [List.nil_append]
  have h1 := cell_le a b l (2 * x) (2 * y)
  have h2 := cell_le a b l (2 * x + 1) (2 * y)
  by_cases h3 : 2 * y + 1 < b
  · refine l2_step hi (by omega) h3 (by omega) (by omega) (by rw [List.length_append]; omega) ?_
    exact l2_done (.inl (by omega)) (by omega) hm h0 (by show (blkS a b l x y).length ≤ 1000; omega) hout h
  · have e : blkS a b l x y = cellS a b l (2 * x) (2 * y) ++ cellS a b l (2 * x + 1) (2 * y) := by
      have c1 : cellS a b l (2 * x) (2 * y + 1) = [] := by unfold cellS; rw [if_neg (by omega)]
      have c2 : cellS a b l (2 * x + 1) (2 * y + 1) = [] := by unfold cellS; rw [if_neg (by omega)]
      unfold blkS
      rw [c1, c2]; simp
    rw [e] at hm h0 h
    exact l2_done (.inr (by omega)) (by omega) hm h0 (by rw [List.length_append]; omega) hout h
end
theorem l1_all {a b : Nat} {l : List Pa.S44} {T : Int × Int × List Pa.S44} {X18 W2 H2 : Int} (hi : vim a b l) {y : Nat} (hy : y < (b + 1) / 2)
    (h : Ev (fun k => Pa.pyramid_half.l0 k X18 ((y + 1 : Nat) : Int) a b l W2 H2 (grid ((a + 1) / 2) (y + 1) fun x y => meanS (blkS a b l x y))) T) :
    ∀ (d x : Nat), x + d = (a + 1) / 2 → Ev (fun k => Pa.pyramid_half.l1 k y X18 y (((a + 1) / 2 : Nat) : Int) x a b l W2 H2 (grid ((a + 1) / 2) y (fun x y => meanS (blkS a b l x y)) ++ (List.range x).map fun x => meanS (blkS a b l x y))) T
  | 0, x, hd => by
    obtain rfl : x = (a + 1) / 2 := by omega
    refine Ev.step ?_
    simp only [Pa.pyramid_half.l1]
    refine Ev.neg (by omega) ?_
    have hb := hi.hb
    have e : wrap64 ((y : Int) + 1) = ((y + 1 : Nat) : Int) := by rw [w64 (by omega) (by omega)]; omega
    rw [e]
    rw [grid_succ] at h
    exact h
  | d + 1, x, hd => by
    have ih := l1_all hi hy h d (x + 1) (by omega)
    have ha := hi.ha
    have hb := hi.hb
    refine Ev.step ?_
    simp only [Pa.pyramid_half.l1]
    refine Ev.pos (by omega) ?_
    have hlen : (grid ((a + 1) / 2) y (fun x y => meanS (blkS a b l x y)) ++ (List.range x).map fun x => meanS (blkS a b l x y)).length ≤ 100000 := by
      rw [List.length_append, grid_length, List.length_map, List.length_range]
      have : y * ((a + 1) / 2) ≤ 256 * 256 := Nat.mul_le_mul (by omega) (by omega)
      omega
    refine l2_all hi (by omega) hy hlen ?_
    have e : wrap64 ((x : Int) + 1) = ((x + 1 : Nat) : Int) := by rw [w64 (by omega) (by omega)]; omega
    rw [e, List.append_assoc]
    rw [List.range_succ, List.map_append] at ih
    exact ih
theorem l0_all {a b : Nat} {l : List Pa.S44} {H2 : Int} (hi : vim a b l) : ∀ (d y : Nat), y + d = (b + 1) / 2 → Ev (fun k => Pa.pyramid_half.l0 k (((b + 1) / 2 : Nat) : Int) y a b l (((a + 1) / 2 : Nat) : Int) H2 (grid ((a + 1) / 2) y (fun x y => meanS (blkS a b l x y)))) ((((a + 1) / 2 : Nat) : Int), H2, halfS a b l)
  | 0, y, hd => by
    obtain rfl : y = (b + 1) / 2 := by omega
    refine Ev.step ?_
    simp only [Pa.pyramid_half.l0]
    exact Ev.neg (by omega) (Ev.all fun _ => rfl)
  | d + 1, y, hd => by
    have ih := l0_all (H2 := H2) hi d (y + 1) (by omega)
    refine Ev.step ?_
    simp only [Pa.pyramid_half.l0]
    refine Ev.pos (by omega) ?_
    have hb := hi.hb
    have e := l1_all (T := ((((a + 1) / 2 : Nat) : Int), H2, halfS a b l)) (X18 := (((b + 1) / 2 : Nat) : Int)) hi (y := y) (by omega) ih ((a + 1) / 2) 0 (Nat.zero_add _)
    simpa using e
theorem half_nat {x : Nat} (h1 : x ≤ 256) : wrap64 (Int.tdiv (wrap64 ((x : Int) + 1)) 2) = (((x + 1) / 2 : Nat) : Int) := by
  rw [(half_step (x := (x : Int)) (by omega) (by omega)).1]; omega
theorem half_ev {a b : Nat} {l : List Pa.S44} (hi : vim a b l) : Ev (fun k => Pa.pyramid_half.f k a b l) ((((a + 1) / 2 : Nat) : Int), (((b + 1) / 2 : Nat) : Int), halfS a b l) := by
  unfold Pa.pyramid_half.f
  rw [half_nat hi.ha, half_nat hi.hb]
  exact l0_all hi _ 0 (Nat.zero_add _)
end Go.Proofs.YtkchkfmggbejfaaGreatDoor
