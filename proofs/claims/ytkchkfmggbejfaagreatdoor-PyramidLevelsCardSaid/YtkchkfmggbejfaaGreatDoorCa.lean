/- What the reference's check, pixel, mean and half compute. -/
import Derived.Test.YtkchkfmggbejfaaGreatDoorSf
import Derived.Test.YtkchkfmggbejfaaGreatDoorPcx5
namespace Go.Proofs.YtkchkfmggbejfaaGreatDoor
open Go.RowKit Go.Proofs.YtkchkfmggbejfaaGreatDoorW.PrintWords Go.Proofs.YtkchkfmggbejfaaGreatDoorW.PrintLast Go.Proofs.YtkchkfmggbejfaaGreatDoorW.PrintMore
set_option linter.unusedSimpArgs false

/-- The same pixel, as the reference's texts spell it. -/
def cv (p : Pa.S44) : Pc.S44 := ⟨p.f0, p.f1, p.f2, p.f3⟩
theorem rrd_at {l pre r : List Pa.S44} {p : Pa.S44} (e : l = pre ++ p :: r) : Pc.rd_T44 (l.map cv) (pre.length : Int) = cv p := by
  subst e
  unfold Pc.rd_T44
  rw [List.getD_eq_getElem?_getD, Int.toNat_natCast, List.map_append, List.getElem?_append_right (by rw [List.length_map]; exact Nat.le_refl _), List.length_map, Nat.sub_self]
  rfl
theorem rrd_get {l : List Pa.S44} {i : Nat} {p : Pa.S44} (h : l[i]? = some p) : Pc.rd_T44 (l.map cv) (i : Int) = cv p := by
  unfold Pc.rd_T44
  rw [List.getD_eq_getElem?_getD, Int.toNat_natCast, List.getElem?_map, h]
  rfl

/-! ### the check -/
theorem run_mn (x : Int) : (mn 65535 (mx x 0) == x) = unB x := by
  rw [← un_mn x]; exact Bool.beq_comm
theorem rpxv_f (p : Pa.S44) : Pc.imageeditorref06_Valid.f p.f0 p.f1 p.f2 p.f3 = some (pxB p) := by
  unfold Pc.imageeditorref06_Valid.f Pc.imageeditorref06_Limit.f Pc.imageeditorref06_U.f Pc.imageeditorref01_Clamp.f
  simp only [Option.bind_some, run_mn]
  rfl
theorem rcheck_l0 (a b : Int) {l : List Pa.S44} (hl : l.length ≤ 100000) : ∀ (rest pre : List Pa.S44), l = pre ++ rest → Ev (fun k => Pc.imageeditorref11_Check.l0 k (pre.length : Int) a b (l.map cv)) (if rest.all pxB = true then 0 else 2)
  | [], pre, e => by
    rw [List.append_nil] at e
    subst e
    refine Ev.step ?_
    simp only [Pc.imageeditorref11_Check.l0]
    exact Ev.neg (by rw [List.length_map]; omega) (Ev.all fun _ => rfl)
  | p :: r, pre, e => by
    have hlen : l.length = pre.length + (r.length + 1) := by rw [e]; simp
    have ih := rcheck_l0 a b hl r (pre ++ [p]) (by rw [e]; simp)
    refine Ev.step ?_
    simp only [Pc.imageeditorref11_Check.l0]
    refine Ev.pos (by rw [List.length_map]; omega) (Ev.pos (by omega) ?_)
    have hv : Pc.imageeditorref06_Valid.f (cv p).f0 (cv p).f1 (cv p).f2 (cv p).f3 = some (pxB p) := rpxv_f p
    rw [rrd_at e, hv, wone (by omega)]
    refine Ev.of (g := fun k => if pxB p = true then Pc.imageeditorref11_Check.l0 k ((pre.length + 1 : Nat) : Int) a b (l.map cv) else some 2) ?_ (fun k => rfl)
    rw [List.length_append] at ih
    by_cases hp : pxB p = true
    · have e2 : (if (p :: r).all pxB = true then (0 : Int) else 2) = if r.all pxB = true then 0 else 2 := by simp [hp]
      rw [e2]
      exact Ev.pos hp ih
    · have e2 : (if (p :: r).all pxB = true then (0 : Int) else 2) = 2 := by simp [hp]
      rw [e2]
      exact Ev.neg hp (Ev.all fun _ => rfl)
theorem rj1_true (a b : Int) (l : List Pc.S44) : Ev (fun k => Pc.imageeditorref11_Check.j1 k true a b l) 15 := by
  refine Ev.step ?_
  simp only [Pc.imageeditorref11_Check.j1]
  exact Ev.pos (by trivial) (Ev.all fun _ => rfl)
theorem rj0_true (a b : Int) (l : List Pc.S44) : Ev (fun k => Pc.imageeditorref11_Check.j0 k true a b l) 15 := by
  refine Ev.step ?_
  simp only [Pc.imageeditorref11_Check.j0]
  exact Ev.pos (by trivial) (Ev.all fun _ => rfl)
theorem chk_out {a b : Int} {l : List Pa.S44} (h : ¬ (0 ≤ a ∧ a ≤ 256 ∧ 0 ≤ b ∧ b ≤ 256 ∧ (a = 0 ↔ b = 0))) : chk a b l = 15 := by
  unfold chk
  rw [if_neg]
  rintro ⟨hs, _⟩
  exact h (by simpa [sidesB] using hs)
theorem rcheck_ev (a b : Int) (l : List Pa.S44) : Ev (fun k => Pc.imageeditorref11_Check.f k a b (l.map cv)) (chk a b l) := by
  unfold Pc.imageeditorref11_Check.f
  by_cases h1 : a < 0
  · rw [chk_out (fun h => absurd h.1 (Int.not_le.2 h1))]; exact Ev.pos h1 (rj0_true _ _ _)
  by_cases h2 : a > 256
  · rw [chk_out (fun h => absurd h.2.1 (Int.not_le.2 h2))]; exact Ev.neg h1 (Ev.pos h2 (rj0_true _ _ _))
  by_cases h3 : b < 0
  · rw [chk_out (fun h => absurd h.2.2.1 (Int.not_le.2 h3))]; exact Ev.neg h1 (Ev.neg h2 (Ev.pos h3 (rj0_true _ _ _)))
  refine Ev.neg h1 (Ev.neg h2 (Ev.neg h3 ?_))
  by_cases h4 : b > 256
  · rw [chk_out (fun h => absurd h.2.2.2.1 (Int.not_le.2 h4)), decide_eq_true h4]; exact rj0_true _ _ _
  rw [decide_eq_false h4]
  refine Ev.step ?_
  simp only [Pc.imageeditorref11_Check.j0]
  refine Ev.neg (by decide) ?_
  by_cases h5 : (a = 0 ↔ b = 0)
  · have e : ((a == 0) != (b == 0)) = false := by
      by_cases h6 : a = 0
      · rw [beq_iff_eq.2 h6, beq_iff_eq.2 (h5.1 h6)]; rfl
      · rw [beq_eq_false_iff_ne.2 h6, beq_eq_false_iff_ne.2 (fun h => h6 (h5.2 h))]; rfl
    rw [e]
    refine Ev.neg (by decide) ?_
    refine Ev.step ?_
    simp only [Pc.imageeditorref11_Check.j1]
    have hs : sidesB a b = true := decide_eq_true ⟨Int.not_lt.1 h1, Int.not_lt.1 h2, Int.not_lt.1 h3, Int.not_lt.1 h4, h5⟩
    have hab : a * b ≤ 256 * 256 := Int.mul_le_mul (Int.not_lt.1 h2) (Int.not_lt.1 h4) (Int.not_lt.1 h3) (by decide)
    have hab0 : 0 ≤ a * b := Int.mul_nonneg (Int.not_lt.1 h1) (Int.not_lt.1 h3)
    rw [List.length_map, w64 (x := a * b) (by omega) (by omega)]
    unfold chk
    by_cases hl : (l.length : Int) = a * b
    · have hbn : ((l.length : Int) != a * b) = false := by rw [hl]; simp
      rw [hbn, if_pos ⟨hs, hl⟩]
      refine Ev.neg (by decide) ?_
      exact rcheck_l0 a b (by omega) l [] rfl
    · have hbn : ((l.length : Int) != a * b) = true := by simpa using hl
      rw [hbn, if_neg (by rintro ⟨_, h⟩; exact hl h)]
      exact Ev.pos (by trivial) (Ev.all fun _ => rfl)
  · have e : ((a == 0) != (b == 0)) = true := by
      by_cases h6 : a = 0
      · rw [beq_iff_eq.2 h6, beq_eq_false_iff_ne.2 (fun h => h5 ⟨fun _ => h, fun _ => h6⟩)]; rfl
      · by_cases h7 : b = 0
        · rw [beq_eq_false_iff_ne.2 h6, beq_iff_eq.2 h7]; rfl
        · exact absurd ⟨fun h => absurd h h6, fun h => absurd h h7⟩ h5
    rw [e, chk_out (fun h => h5 h.2.2.2.2)]
    exact Ev.pos (by trivial) (rj1_true _ _ _)

/-! ### a pixel -/
theorem rat_ev {a b : Nat} {l : List Pa.S44} (hi : vim a b l) {x y : Nat} (hx : x < a) (hy : y < b) {p : Pa.S44} (hp : l[y * a + x]? = some p) : Ev (fun k => Pc.imageeditorref11_At.f k a b (l.map cv) x y) (tup p) := by
  have h := rcheck_ev a b l
  rw [vim_chk hi] at h
  unfold Pc.imageeditorref11_At.f
  refine Ev.bind h ?_
  refine Ev.pos rfl (Ev.all fun k => ?_)
  have ha := hi.ha
  have hb := hi.hb
  have hya : y * a ≤ 256 * 256 := Nat.mul_le_mul (by omega) ha
  have hlt := (List.getElem?_eq_some_iff.1 hp).1
  unfold Pc.imageeditorref11_Pick.f
  rw [if_neg (by omega), if_neg (by omega), if_neg (by omega), if_neg (by omega), wmul (by omega), wadd (by omega) (by omega), if_pos (by omega), if_pos (by rw [List.length_map]; omega), rrd_get hp]
  rfl

/-! ### the quotient -/
theorem uw {x : Int} (h0 : 0 ≤ x) (h1 : x ≤ 1000000000000000000) : IntKind.u64.wrap x = x := by
  simp only [IntKind.wrap, IntKind.bits, IntKind.signed]
  simp
  omega
theorem rfloor_ev {a b : Int} (hb : 0 < b) (h0 : 0 ≤ a) (h1 : a ≤ 1000000000000000) : Ev (fun k => Pc.imageeditorref01_Floor.f k a b) (a / b) := by
  obtain ⟨q0, q1, _, q3, _⟩ := quo_in hb h0
  unfold Pc.imageeditorref01_Floor.f
  refine Ev.neg (by omega) (Ev.neg (by omega) ?_)
  refine Ev.step ?_
  simp only [Pc.imageeditorref01_Floor.j0]
  refine Ev.neg (by decide) (Ev.neg (by omega) ?_)
  rw [Int.tdiv_eq_ediv_of_nonneg h0, Int.tmod_eq_emod_of_nonneg h0, w64 (x := a / b) (by omega) (by omega)]
  by_cases h : a % b = 0
  · exact Ev.pos h (Ev.all fun _ => rfl)
  · refine Ev.neg h (Ev.neg ?_ (Ev.all fun _ => rfl))
    rw [decide_eq_false (by omega : ¬ a % b < 0), decide_eq_false (by omega : ¬ b < 0)]
    decide
theorem rdiv_ev {a b : Int} (hb : 0 < b) (h0 : 0 ≤ a) (h1 : a ≤ 1000000000000000) (h2 : b ≤ 1000000000000000) : Ev (fun k => Pc.imageeditorref01_Div.f k a b) (dv a b) := by
  obtain ⟨q0, q1, q2, q3, q4⟩ := quo_in hb h0
  unfold Pc.imageeditorref01_Div.f
  refine Ev.neg (by omega) ?_
  refine Ev.bind (rfloor_ev hb h0 h1) (Ev.neg (by omega) ?_)
  refine Ev.step ?_
  simp only [Pc.imageeditorref01_Div.j0]
  refine Ev.neg (by decide) ?_
  rw [Int.mul_comm b, q2, w64 (x := a - a % b) (by omega) (by omega), w64 (x := a - (a - a % b)) (by omega) (by omega)]
  have e : a - (a - a % b) = a % b := by omega
  rw [e]
  unfold Pc.imageeditorref01_Abs.f
  rw [if_neg (by omega), if_neg (by omega), uw (by omega) (by omega), uw (by omega) (by omega)]
  simp only [Option.bind_some]
  rw [uw (by omega) (by omega), w64 (x := a / b + 1) (by omega) (by omega), dv_eq hb]
  by_cases h : 2 * (a % b) ≥ b
  · rw [if_pos h]
    exact Ev.pos (by omega) (Ev.all fun _ => rfl)
  · rw [if_neg h]
    exact Ev.neg (by omega) (Ev.all fun _ => rfl)
end Go.Proofs.YtkchkfmggbejfaaGreatDoor
