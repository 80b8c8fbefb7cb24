/- A clone of a row of pixels. -/
import Derived.Test.YtkchkfmggbejfaaGreatDoorDd
import Derived.Lib.SliceRun
import Derived.OwnWalk
namespace Go.Proofs.YtkchkfmggbejfaaGreatDoor
open Go.RowKit Go.Proofs.YtkchkfmggbejfaaGreatDoorW.PrintWords
set_option linter.unusedSimpArgs false
set_option maxRecDepth 20000

def pc (x : Pa.S44) : List Value := [.int .i64 x.f0, .int .i64 x.f1, .int .i64 x.f2, .int .i64 x.f3]
def fl (l : List Pa.S44) : List Value := l.flatMap pc
theorem fl_length (l : List Pa.S44) : (fl l).length = l.length * 4 := by
  induction l with
  | nil => rfl
  | cons a r ih => simp [fl, pc] at ih ⊢; omega
theorem fl_one {l : List Pa.S44} : ∀ u ∈ fl l, u.oneCell' = true := by
  intro u hu
  simp only [fl, List.mem_flatMap] at hu
  obtain ⟨k, _, hk⟩ := hu
  simp only [pc, List.mem_cons, List.not_mem_nil, or_false] at hk
  rcases hk with rfl | rfl | rfl | rfl <;> rfl
theorem fl_get (l : List Pa.S44) : ∀ (j : Nat) (u : Value), (fl l)[j]? = some u → ∃ p, l[j / 4]? = some p ∧ (pc p)[j % 4]? = some u := by
  induction l with
  | nil => intro j u h; simp [fl] at h
  | cons a r ih =>
    intro j u h
    have hc : fl (a :: r) = pc a ++ fl r := rfl
    rw [hc] at h
    by_cases hj : j < 4
    · rw [List.getElem?_append_left (by simp [pc]; omega)] at h
      have e1 : j / 4 = 0 := by omega
      have e2 : j % 4 = j := by omega
      exact ⟨a, by rw [e1]; rfl, by rw [e2]; exact h⟩
    · rw [List.getElem?_append_right (by simp [pc]; omega)] at h
      have hl : (pc a).length = 4 := rfl
      rw [hl] at h
      obtain ⟨p, h1, h2⟩ := ih (j - 4) u h
      refine ⟨p, ?_, ?_⟩
      · have e1 : j / 4 = (j - 4) / 4 + 1 := by omega
        rw [e1, List.getElem?_cons_succ]; exact h1
      · have e2 : j % 4 = (j - 4) % 4 := by omega
        rw [e2]; exact h2
theorem fl_reps {R : Pa.S44 → List Value → Prop} (hR : ∀ p, R p (pc p)) : ∀ (n : Nat) (l : List Pa.S44), l.length = n → Reps R 4 l (fl l) := by
  intro n
  induction n with
  | zero => intro l hl; obtain rfl := List.eq_nil_of_length_eq_zero hl; exact Reps.none _ _
  | succ n ih =>
    intro l hl
    have hne : l ≠ [] := by rintro rfl; simp at hl
    have e := List.dropLast_concat_getLast hne
    have h1 := ih l.dropLast (by simp; omega)
    have h2 : fl (l.dropLast ++ [l.getLast hne]) = fl l.dropLast ++ pc (l.getLast hne) := by simp [fl]
    have h3 := h1.snoc (hR (l.getLast hne)) rfl
    rw [← h2, e] at h3
    exact h3
theorem fl_R {w : World} {base : Nat} {v : Value} {l : List Pa.S44} (h : w.ownsRow base 44 4 v l.length (fl l)) : Kd.R Pa.k44 44 w base (fun _ => True) v l :=
  ⟨fun _ _ => trivial, fl l, h, fl_reps (fun p => Pa.k44_mkM _ _ _ p) _ l rfl⟩
theorem fl_C {w : World} {A : Option Addr} {n : Nat} {l : List Pa.S44} (h : Kd.C Pa.k44 w A n l) : l.length = n ∧ (A = none → n = 0) ∧ ∀ ad, A = some ad → ∀ j u, (fl l)[j]? = some u → w.cell? (ad.add j) = some u := by
  obtain ⟨h1, h2, h3⟩ := h
  refine ⟨h1, fun e => ?_, fun ad he j u hu => ?_⟩
  · by_cases h0 : 0 < n
    · obtain ⟨ad, e', _⟩ := h3 h0; rw [e] at e'; cases e'
    · omega
  · obtain ⟨p, hp, hu'⟩ := fl_get l j u hu
    have hlt := (List.getElem?_eq_some_iff.1 hp).1
    obtain ⟨ad', e', hc⟩ := h3 (by omega)
    rw [he] at e'; cases e'
    obtain ⟨c, _, hk, hcell⟩ := hc _ _ hp
    have := Pa.k44_open hk
    subst this
    have h5 := hcell (j % 4) u hu'
    have e : j / 4 * Pa.k44.sz + j % 4 = j := by
      have : Pa.k44.sz = 4 := rfl
      rw [this]; omega
    rw [e] at h5
    exact h5

theorem eql29 (w : World) (A : Option Addr) (n c : Nat) : (binOp .eql 29 (.slice A n c) (.slice none 0 0)).run Tryz.prog w = .ok (.bool A.isNone) w :=
  Lib.run_eql_slice_nil (P := Tryz.prog) w 29 44 A n c 0 0 Tryz.underlying29
theorem clone_px (A : Option Addr) (c : Nat) (l : List Pa.S44) (w : World) (h : Kd.C Pa.k44 w A l.length l) (hn : l.length ≤ 100000) :
    Calls Tryz.prog 41 #[.slice A l.length c] w fun e w' => ∃ v, e = .returned v ∧ Kd.R Pa.k44 44 w' w.heap.size (fun _ => True) v l ∧ Below w.heap.size w w' := by
  have q := eql29
  obtain ⟨_, h0, hc⟩ := fl_C h
  clear h
  cases A with
  | none =>
    have hx : l = [] := List.eq_nil_of_length_eq_zero (h0 rfl)
    subst hx
    go_enter Tryz.func41, Tryz.ntmps41
    go_wp2
    go_ret
    exact ⟨_, rfl, Kd.R_nil _ _ _ _ _, Below.refl _ _⟩
  | some ad =>
    obtain ⟨i0, hi, hzz⟩ := Option.map_eq_some_iff.1 Pa.info44
    simp only [Prod.mk.injEq] at hzz
    obtain ⟨hz0, hz1, hz2⟩ := hzz
    have hc' := Lib.hid (hc ad rfl)
    clear hc h0
    go_enter Tryz.func41, Tryz.ntmps41
    go_wp2_with (at_builtin; refine wpList_append_own _ rfl (.tmp 5) (.tmp 6) 29 rfl w.heap.size 44 i0 _ 4 32 Tryz.underlying29 hi hz0 hz1 hz2 rfl (by decide) (.slice (some ⟨w.heap.size, 0, none⟩) 0 0) 0 [] rfl (World.ownsRow_made w #[] 0 (Nat.le_refl _) (by simp [maxLen]) (by simp)) ad l.length c (fl l) rfl (fl_length l) (fun j u hu => by have := hc'.out j u hu; exact (Below.cell (Below.alloc (Below.refl _ _) (Nat.le_refl _) _) (World.block_lt_of_cell? w _ this)).trans this) fl_one (by simp [maxLen]; omega) (by omega) (by simp) ?_; intro v' w1 hown hg _)
    go_ret
    refine ⟨_, rfl, fl_R (by simpa using hown), ?_⟩
    exact (Below.alloc (Below.refl _ _) (Nat.le_refl _) _).grown hg (by simp) (fun k hk => by simp [Value.ownBlock] at hk; omega)
end Go.Proofs.YtkchkfmggbejfaaGreatDoor
