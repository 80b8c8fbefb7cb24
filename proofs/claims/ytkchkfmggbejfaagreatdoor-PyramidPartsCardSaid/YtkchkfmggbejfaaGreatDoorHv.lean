/- The mean of some pixels in closed form: numbers alone. -/
import Derived.Test.YtkchkfmggbejfaaGreatDoorPax0
namespace Go.Proofs.YtkchkfmggbejfaaGreatDoor
open Go.RowKit Go.Proofs.YtkchkfmggbejfaaGreatDoorW.PrintWords Go.Proofs.YtkchkfmggbejfaaGreatDoorW.PrintLast Go.Proofs.YtkchkfmggbejfaaGreatDoorW.PrintMore
set_option linter.unusedSimpArgs false

/-! ### enough fuel -/
/-- From some fuel on the answer is v. -/
def Ev {α : Type} (f : Nat → Option α) (v : α) : Prop := ∃ m, ∀ k, m ≤ k → f k = some v
theorem Ev.all {α : Type} {f : Nat → Option α} {v : α} (h : ∀ k, f k = some v) : Ev f v := ⟨0, fun k _ => h k⟩
theorem Ev.of {α : Type} {f g : Nat → Option α} {v : α} (h : Ev g v) (e : ∀ k, f k = g k) : Ev f v := by
  obtain ⟨m, hm⟩ := h
  exact ⟨m, fun k hk => (e k).trans (hm k hk)⟩
theorem Ev.step {α : Type} {f : Nat → Option α} {v : α} (h : Ev (fun k => f (k + 1)) v) : Ev f v := by
  obtain ⟨m, hm⟩ := h
  refine ⟨m + 1, fun k hk => ?_⟩
  obtain ⟨k, rfl⟩ : ∃ n, k = n + 1 := ⟨k - 1, by omega⟩
  exact hm k (by omega)
theorem Ev.bind {α β : Type} {f : Nat → Option α} {g : Nat → α → Option β} {a : α} {b : β} (h : Ev f a) (h' : Ev (fun k => g k a) b) : Ev (fun k => (f k).bind (g k)) b := by
  obtain ⟨m, hm⟩ := h
  obtain ⟨n, hn⟩ := h'
  exact ⟨max m n, fun k hk => by show (f k).bind (g k) = _; rw [hm k (by omega)]; exact hn k (by omega)⟩
theorem Ev.got {α : Type} {f : Nat → Option α} {v : α} (h : Ev f v) : ∃ k, f k = some v := by
  obtain ⟨m, hm⟩ := h
  exact ⟨m, hm m (Nat.le_refl _)⟩
theorem Ev.both {α β : Type} {f : Nat → Option α} {g : Nat → Option β} {a : α} {b : β} (h : Ev f a) (h' : Ev g b) : ∃ m, ∀ k, m ≤ k → f k = some a ∧ g k = some b := by
  obtain ⟨m, hm⟩ := h
  obtain ⟨n, hn⟩ := h'
  exact ⟨max m n, fun k hk => ⟨hm k (by omega), hn k (by omega)⟩⟩

theorem w64 {x : Int} (h0 : -9000000000000000000 ≤ x) (h1 : x ≤ 9000000000000000000) : wrap64 x = x := by unfold wrap64; omega

/-! ### the rounded quotient -/
def dv (a b : Int) : Int := (2 * a + b) / (2 * b)
theorem dv_le {a b M : Int} (hb : 0 < b) (h : a ≤ M * b) : dv a b ≤ M := by
  unfold dv
  have e : (M + 1) * (2 * b) = 2 * (M * b) + 2 * b := by rw [Int.add_mul, Int.mul_left_comm M 2 b]; omega
  have : (2 * a + b) / (2 * b) < M + 1 := Int.ediv_lt_of_lt_mul (by omega) (by rw [e]; omega)
  omega
theorem le_dv {a b m : Int} (hb : 0 < b) (h : m * b ≤ a) : m ≤ dv a b := by
  unfold dv
  refine Int.le_ediv_of_mul_le (by omega) ?_
  rw [Int.mul_left_comm m 2 b]; omega
theorem dv_zero {b : Int} (hb : 0 < b) : dv 0 b = 0 := by
  unfold dv
  rw [Int.mul_zero, Int.zero_add]
  exact Int.ediv_eq_zero_of_lt (by omega) (by omega)
theorem dv_pos {a b : Int} (hb : 0 < b) (ha : 0 ≤ a) : 0 ≤ dv a b := le_dv hb (by rw [Int.zero_mul]; exact ha)

/-! ### sums -/
def sm (g : Pa.S44 → Int) : List Pa.S44 → Int
  | [] => 0
  | p :: r => g p + sm g r
theorem sm_le {g h : Pa.S44 → Int} {M : Int} : ∀ {l : List Pa.S44}, (∀ p ∈ l, g p ≤ M * h p) → sm g l ≤ M * sm h l
  | [], _ => by simp [sm]
  | p :: r, H => by
    have h1 := H p (List.mem_cons_self ..)
    have h2 := sm_le (l := r) (fun q hq => H q (List.mem_cons_of_mem _ hq))
    simp only [sm, Int.mul_add]
    omega
theorem le_sm {g h : Pa.S44 → Int} {M : Int} : ∀ {l : List Pa.S44}, (∀ p ∈ l, M * h p ≤ g p) → M * sm h l ≤ sm g l
  | [], _ => by simp [sm]
  | p :: r, H => by
    have h1 := H p (List.mem_cons_self ..)
    have h2 := le_sm (l := r) (fun q hq => H q (List.mem_cons_of_mem _ hq))
    simp only [sm, Int.mul_add]
    omega
theorem sm_one : ∀ (l : List Pa.S44), sm (fun _ => 1) l = l.length
  | [] => rfl
  | p :: r => by simp only [sm, sm_one r, List.length_cons]; omega

/-! ### a pixel, a mean -/
def unt (x : Int) : Prop := 0 ≤ x ∧ x ≤ 65535
structure vpx (p : Pa.S44) : Prop where
  h0 : unt p.f0
  h1 : unt p.f1
  h2 : unt p.f2
  h3 : unt p.f3
def eS (l : List Pa.S44) : Int := sm (fun p => p.f3) l
def rS (l : List Pa.S44) : Int := sm (fun p => p.f0 * p.f3) l
def gS (l : List Pa.S44) : Int := sm (fun p => p.f1 * p.f3) l
def bS (l : List Pa.S44) : Int := sm (fun p => p.f2 * p.f3) l
def clearP : Pa.S44 := ⟨0, 0, 0, 0⟩
def meanS (l : List Pa.S44) : Pa.S44 := if dv (eS l) l.length = 0 then clearP else ⟨dv (rS l) (eS l), dv (gS l) (eS l), dv (bS l) (eS l), dv (eS l) l.length⟩
theorem clear_vpx : vpx clearP := ⟨⟨Int.le_refl _, by decide⟩, ⟨Int.le_refl _, by decide⟩, ⟨Int.le_refl _, by decide⟩, ⟨Int.le_refl _, by decide⟩⟩
theorem mul_le {x y : Int} (h : unt x) (h' : unt y) : x * y ≤ 65535 * y := Int.mul_le_mul_of_nonneg_right h.2 h'.1
theorem mul_pos' {x y : Int} (h : unt x) (h' : unt y) : 0 * y ≤ x * y := Int.mul_le_mul_of_nonneg_right h.1 h'.1
theorem eS_le {l : List Pa.S44} (h : ∀ p ∈ l, vpx p) : eS l ≤ 65535 * (l.length : Int) := by
  rw [← sm_one]
  exact sm_le (fun p hp => by rw [Int.mul_one]; exact (h p hp).h3.2)
theorem eS_pos {l : List Pa.S44} (h : ∀ p ∈ l, vpx p) : 0 ≤ eS l := by
  have := le_sm (g := fun p => p.f3) (h := fun _ => 1) (M := 0) (l := l) (fun p hp => by rw [Int.zero_mul]; exact (h p hp).h3.1)
  rwa [Int.zero_mul] at this
theorem pS_le {l : List Pa.S44} {g : Pa.S44 → Int} (h : ∀ p ∈ l, vpx p) (hg : ∀ p ∈ l, unt (g p)) : sm (fun p => g p * p.f3) l ≤ 65535 * eS l :=
  sm_le (fun p hp => mul_le (hg p hp) (h p hp).h3)
theorem pS_pos {l : List Pa.S44} {g : Pa.S44 → Int} (h : ∀ p ∈ l, vpx p) (hg : ∀ p ∈ l, unt (g p)) : 0 ≤ sm (fun p => g p * p.f3) l := by
  have := le_sm (g := fun p => g p * p.f3) (h := fun p => p.f3) (M := 0) (l := l) (fun p hp => mul_pos' (hg p hp) (h p hp).h3)
  rwa [Int.zero_mul] at this
theorem dv_unt {a b : Int} (hb : 0 < b) (h0 : 0 ≤ a) (h1 : a ≤ 65535 * b) : unt (dv a b) := ⟨dv_pos hb h0, dv_le hb h1⟩
theorem eS_gt {l : List Pa.S44} (h : ∀ p ∈ l, vpx p) (hl : 0 < l.length) (hn : ¬ dv (eS l) l.length = 0) : 0 < eS l := by
  have h0 := eS_pos h
  rcases Int.lt_or_eq_of_le h0 with h1 | h1
  · exact h1
  · exact absurd (by rw [← h1]; exact dv_zero (by omega)) hn
theorem meanS_vpx {l : List Pa.S44} (h : ∀ p ∈ l, vpx p) (hl : 0 < l.length) : vpx (meanS l) := by
  unfold meanS
  split
  · exact clear_vpx
  · rename_i hn
    have he := eS_gt h hl hn
    exact ⟨dv_unt he (pS_pos h fun p hp => (h p hp).h0) (pS_le h fun p hp => (h p hp).h0), dv_unt he (pS_pos h fun p hp => (h p hp).h1) (pS_le h fun p hp => (h p hp).h1), dv_unt he (pS_pos h fun p hp => (h p hp).h2) (pS_le h fun p hp => (h p hp).h2), dv_unt (by omega) (eS_pos h) (eS_le h)⟩
end Go.Proofs.YtkchkfmggbejfaaGreatDoor
