/- What the program's mean, half, Check and same compute. -/
import Derived.Test.YtkchkfmggbejfaaGreatDoorHw
import Derived.Test.YtkchkfmggbejfaaGreatDoorNz
import Derived.Test.YtkchkfmggbejfaaGreatDoorPax3
import Derived.Test.YtkchkfmggbejfaaGreatDoorPax4
namespace Go.Proofs.YtkchkfmggbejfaaGreatDoor
open Go.RowKit Go.Proofs.YtkchkfmggbejfaaGreatDoorW.PrintWords Go.Proofs.YtkchkfmggbejfaaGreatDoorW.PrintLast Go.Proofs.YtkchkfmggbejfaaGreatDoorW.PrintMore
set_option linter.unusedSimpArgs false

theorem Ev.pos {α : Type} {f g : Nat → Option α} {v : α} {c : Prop} [Decidable c] (hc : c) (h : Ev f v) : Ev (fun k => if c then f k else g k) v := h.of fun _ => if_pos hc
theorem Ev.neg {α : Type} {f g : Nat → Option α} {v : α} {c : Prop} [Decidable c] (hc : ¬ c) (h : Ev g v) : Ev (fun k => if c then f k else g k) v := h.of fun _ => if_neg hc

/-! ### the quotient -/
theorem dv_eq {a b : Int} (hb : 0 < b) : dv a b = if 2 * (a % b) ≥ b then a / b + 1 else a / b := by
  unfold dv
  have h0 := Int.emod_nonneg a (by omega : b ≠ 0)
  have h1 := Int.emod_lt_of_pos a hb
  have h2 := Int.emod_add_mul_ediv a b
  generalize a % b = r at *
  generalize a / b = q at *
  subst h2
  have e : 2 * (r + b * q) + b = (2 * r + b) + (2 * b) * q := by rw [Int.mul_add, Int.mul_assoc]; omega
  rw [e, Int.add_mul_ediv_left _ _ (by omega)]
  split
  · have e2 : 2 * r + b = (2 * r - b) + (2 * b) * 1 := by omega
    rw [e2, Int.add_mul_ediv_left _ _ (by omega), Int.ediv_eq_zero_of_lt (by omega) (by omega)]; omega
  · rw [Int.ediv_eq_zero_of_lt (by omega) (by omega)]; omega
theorem quo_in {a b : Int} (hb : 0 < b) (h0 : 0 ≤ a) : 0 ≤ a / b ∧ a / b ≤ a ∧ a / b * b = a - a % b ∧ 0 ≤ a % b ∧ a % b < b := by
  have h2 := Int.emod_add_mul_ediv a b
  exact ⟨Int.ediv_nonneg h0 (by omega), Int.ediv_le_self _ h0, by rw [Int.mul_comm]; omega, Int.emod_nonneg a (by omega), Int.emod_lt_of_pos a hb⟩
theorem floor_f {a b : Int} (hb : 0 < b) (h0 : 0 ≤ a) (h1 : a ≤ 1000000000000000) : Pa.num_Floor.f a b = some (a / b) := by
  obtain ⟨q0, q1, _, _, _⟩ := quo_in hb h0
  unfold Pa.num_Floor.f
  rw [if_neg (by omega), if_neg (by omega), Int.tdiv_eq_ediv_of_nonneg h0, w64 (by omega) (by omega)]
  split
  · rfl
  · rw [decide_eq_false (by omega : ¬ a < 0), decide_eq_false (by omega : ¬ b < 0)]
    rfl
theorem div_ev {a b : Int} (hb : 0 < b) (h0 : 0 ≤ a) (h1 : a ≤ 1000000000000000) (h2 : b ≤ 1000000000000000) : Ev (fun k => Pa.num_Div.f k a b) (dv a b) := by
  obtain ⟨q0, q1, q2, q3, q4⟩ := quo_in hb h0
  refine Ev.step (Ev.all fun k => ?_)
  unfold Pa.num_Div.f
  rw [floor_f hb h0 h1]
  have hb1 : (b == -1) = false := by rw [beq_eq_false_iff_ne]; omega
  simp only [Option.bind_some]
  rw [if_neg (by omega), hb1]
  simp only [Pa.num_Div.j0, Bool.false_eq_true, if_false]
  rw [if_pos (by omega), q2, w64 (x := a - a % b) (by omega) (by omega), w64 (x := a - (a - a % b)) (by omega) (by omega), w64 (x := b - (a - (a - a % b))) (by omega) (by omega), w64 (x := a / b + 1) (by omega) (by omega), if_neg (by omega : ¬ b < 0), dv_eq hb]
  by_cases h : 2 * (a % b) ≥ b
  · rw [if_pos (by omega), if_pos h]
  · rw [if_neg (by omega), if_neg h]

/-! ### the mean -/
def tup (p : Pa.S44) : Int × Int × Int × Int := (p.f0, p.f1, p.f2, p.f3)
theorem sm_snoc (g : Pa.S44 → Int) (p : Pa.S44) : ∀ l : List Pa.S44, sm g (l ++ [p]) = sm g l + g p
  | [] => by simp [sm]
  | q :: r => by simp only [List.cons_append, sm, sm_snoc g p r]; omega
theorem eS_in {l : List Pa.S44} (h : ∀ p ∈ l, vpx p) (hl : l.length ≤ 1000) : 0 ≤ eS l ∧ eS l ≤ 65535000 := by
  have h1 := eS_le h
  have h2 := eS_pos h
  omega
theorem pS_in {l : List Pa.S44} {g : Pa.S44 → Int} (h : ∀ p ∈ l, vpx p) (hg : ∀ p ∈ l, unt (g p)) (hl : l.length ≤ 1000) : 0 ≤ sm (fun p => g p * p.f3) l ∧ sm (fun p => g p * p.f3) l ≤ 4294836225000 := by
  have h1 := pS_le h hg
  have h2 := pS_pos h hg
  have h3 := (eS_in h hl).2
  omega
theorem mul_in {x y : Int} (h : unt x) (h' : unt y) : 0 ≤ x * y ∧ x * y ≤ 4294836225 := by
  have h1 := mul_le h h'
  have h2 := mul_pos' h h'
  have h3 := h'.2
  rw [Int.zero_mul] at h2
  omega
theorem rd_at {l pre r : List Pa.S44} {p : Pa.S44} (e : l = pre ++ p :: r) : Pa.rd_T44 l (pre.length : Int) = p := by
  subst e
  unfold Pa.rd_T44
  rw [List.getD_eq_getElem?_getD, Int.toNat_natCast, List.getElem?_append_right (Nat.le_refl _), Nat.sub_self]
  rfl
theorem mean_l0 {l : List Pa.S44} (hv : ∀ p ∈ l, vpx p) (h0 : 0 < l.length) (h1 : l.length ≤ 1000) : ∀ (rest pre : List Pa.S44), l = pre ++ rest → Ev (fun k => Pa.pyramid_mean.l0 k l (eS pre) (rS pre) (gS pre) (bS pre) l (l.length : Int) (pre.length : Int)) (tup (meanS l))
  | [], pre, e => by
    rw [List.append_nil] at e
    subst e
    refine Ev.step ?_
    simp only [Pa.pyramid_mean.l0]
    refine Ev.neg (by omega) ?_
    refine Ev.bind (div_ev (by omega) (eS_in hv h1).1 (by have := (eS_in hv h1).2; omega) (by omega)) ?_
    by_cases hz : dv (eS l) l.length = 0
    · refine Ev.all fun k => ?_
      show (if dv (eS l) l.length = 0 then _ else _) = _
      unfold meanS
      rw [if_pos hz, if_pos hz]; rfl
    · have hp := eS_gt hv h0 hz
      have he := (eS_in hv h1).2
      have hr := pS_in (g := fun p => p.f0) hv (fun p hp => (hv p hp).h0) h1
      have hg := pS_in (g := fun p => p.f1) hv (fun p hp => (hv p hp).h1) h1
      have hb := pS_in (g := fun p => p.f2) hv (fun p hp => (hv p hp).h2) h1
      have e : tup (meanS l) = (dv (rS l) (eS l), dv (gS l) (eS l), dv (bS l) (eS l), dv (eS l) l.length) := by unfold meanS; rw [if_neg hz]; rfl
      rw [e]
      refine Ev.of (g := fun k => (Pa.num_Div.f k (rS l) (eS l)).bind fun t128 => ((Pa.num_Div.f k (gS l) (eS l)).bind fun t129 => ((Pa.num_Div.f k (bS l) (eS l)).bind fun t130 => some (t128, t129, t130, dv (eS l) l.length)))) ?_ (fun k => by rw [if_neg hz])
      refine Ev.bind (div_ev hp hr.1 (by have := hr.2; show sm _ _ ≤ _; omega) (by omega)) ?_
      refine Ev.bind (div_ev hp hg.1 (by have := hg.2; show sm _ _ ≤ _; omega) (by omega)) ?_
      refine Ev.bind (div_ev hp hb.1 (by have := hb.2; show sm _ _ ≤ _; omega) (by omega)) ?_
      exact Ev.all fun k => rfl
  | p :: r, pre, e => by
    have hlen : l.length = pre.length + (r.length + 1) := by rw [e]; simp
    have hpre : ∀ q ∈ pre, vpx q := fun q hq => hv q (by rw [e]; exact List.mem_append_left _ hq)
    have hp : vpx p := hv p (by rw [e]; simp)
    have hpl : pre.length ≤ 1000 := by omega
    have ih := mean_l0 hv h0 h1 r (pre ++ [p]) (by rw [e]; simp)
    refine Ev.step ?_
    simp only [Pa.pyramid_mean.l0]
    refine Ev.pos (by omega) (Ev.pos (by omega) (Ev.pos (by omega) ?_))
    rw [rd_at e]
    have he := eS_in hpre hpl
    have hr := pS_in (g := fun p => p.f0) hpre (fun p hp => (hpre p hp).h0) hpl
    have hg := pS_in (g := fun p => p.f1) hpre (fun p hp => (hpre p hp).h1) hpl
    have hb := pS_in (g := fun p => p.f2) hpre (fun p hp => (hpre p hp).h2) hpl
    have m0 := mul_in hp.h0 hp.h3
    have m1 := mul_in hp.h1 hp.h3
    have m2 := mul_in hp.h2 hp.h3
    have m3 := hp.h3
    have a3 : wrap64 (eS pre + p.f3) = eS (pre ++ [p]) := by
      rw [w64 (by have := m3.1; omega) (by have := m3.2; omega)]; exact (sm_snoc _ _ _).symm
    have a0 : wrap64 (rS pre + wrap64 (p.f0 * p.f3)) = rS (pre ++ [p]) := by
      rw [w64 (x := p.f0 * p.f3) (by omega) (by omega), w64 (by unfold rS; omega) (by unfold rS; omega)]; exact (sm_snoc (fun p => p.f0 * p.f3) _ _).symm
    have a1 : wrap64 (gS pre + wrap64 (p.f1 * p.f3)) = gS (pre ++ [p]) := by
      rw [w64 (x := p.f1 * p.f3) (by omega) (by omega), w64 (by unfold gS; omega) (by unfold gS; omega)]; exact (sm_snoc (fun p => p.f1 * p.f3) _ _).symm
    have a2 : wrap64 (bS pre + wrap64 (p.f2 * p.f3)) = bS (pre ++ [p]) := by
      rw [w64 (x := p.f2 * p.f3) (by omega) (by omega), w64 (by unfold bS; omega) (by unfold bS; omega)]; exact (sm_snoc (fun p => p.f2 * p.f3) _ _).symm
    have a4 : wrap64 ((pre.length : Int) + 1) = ((pre ++ [p]).length : Int) := by
      rw [w64 (by omega) (by omega), List.length_append]; rfl
    rw [a3, a0, a1, a2, a4]
    exact ih
theorem mean_ev {l : List Pa.S44} (hv : ∀ p ∈ l, vpx p) (h0 : 0 < l.length) (h1 : l.length ≤ 1000) : Ev (fun k => Pa.pyramid_mean.f k l) (tup (meanS l)) :=
  mean_l0 hv h0 h1 l [] rfl
end Go.Proofs.YtkchkfmggbejfaaGreatDoor
