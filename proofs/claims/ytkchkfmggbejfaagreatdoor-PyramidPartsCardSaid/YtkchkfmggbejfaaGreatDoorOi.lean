/- An image that came in, opened. -/
import Derived.Test.YtkchkfmggbejfaaGreatDoorFl
import Derived.Deep.SlicePairs
import Derived.SizedLaws
namespace Go.Proofs.YtkchkfmggbejfaaGreatDoor
open Go.RowKit Go.Deep Go.ChangeShapes
open Go.Proofs.YtkchkfmggbejfaaGreatDoorW.PrintWords
set_option linter.unusedSimpArgs false
set_option maxRecDepth 20000

section
variable {H : Type} {enc : TypeId × Value → H} {w : World} {base : Nat} {spare : Nat → Bool} {held : Bool}

theorem cells3 : Tryz.prog.cellsOf 3 = 1 := by as_aux_lemma => kernel_rfl
theorem cells29 : Tryz.prog.cellsOf 29 = 1 := by as_aux_lemma => kernel_rfl
theorem cells31 : Tryz.prog.cellsOf 31 = 3 := by as_aux_lemma => kernel_rfl
theorem cells44 : Tryz.prog.cellsOf 44 = 4 := by as_aux_lemma => kernel_rfl

theorem int_of {n : Nat} {v : Value} {y : DataW H × List MemPlace} (h : DataW.trod enc Tryz.prog w base spare held n 3 [v] = some y) : ∃ z, v = .int .i64 z := by
  cases n with
  | zero => simp [DataW.trod] at h
  | succ n =>
    unfold DataW.trod at h
    rw [Tryz.underlying3] at h
    split at h <;> simp_all

theorem px_of {n : Nat} {cs : List Value} {y : DataW H × List MemPlace} (h : DataW.trod enc Tryz.prog w base spare held n 44 cs = some y) : ∃ k : Pa.S44, cs = pc k := by
  obtain ⟨xs, m, _, _, hl, hx, hf⟩ := DataW.trod_struct Tryz.underlying44 h
  rw [cells44] at hl
  match cs, hl, xs, hx with
  | [v0, v1, v2, v3], _, [y0, y1, y2, y3], _ =>
    have g0 := hf 0 _ rfl
    have g1 := hf 1 _ rfl
    have g2 := hf 2 _ rfl
    have g3 := hf 3 _ rfl
    simp [cells3] at g0 g1 g2 g3
    obtain ⟨z0, rfl⟩ := int_of g0
    obtain ⟨z1, rfl⟩ := int_of g1
    obtain ⟨z2, rfl⟩ := int_of g2
    obtain ⟨z3, rfl⟩ := int_of g3
    exact ⟨⟨z0, z1, z2, z3⟩, rfl⟩

theorem pix_of {n : Nat} {v : Value} {y : DataW H × List MemPlace} (h : DataW.trod enc Tryz.prog w base spare held n 29 [v] = some y) :
    ∃ A len c l, v = .slice A len c ∧ len ≤ c ∧ Kd.C Pa.k44 w A len l ∧ l.length = len := by
  rcases open_slice Tryz.underlying29 h with ⟨hc, _⟩ | ⟨a, len, cap, m, n', D, Pl, hc, _, hl, hml, hmm, rfl, hx⟩
  · simp only [List.cons.injEq, and_true] at hc
    subst hc
    exact ⟨none, 0, 0, [], rfl, Nat.le_refl _, ⟨rfl, Nat.zero_le _, fun h => absurd h (by decide)⟩, rfl⟩
  · simp only [List.cons.injEq, and_true] at hc
    subst hc
    have hlm : len ≤ m := by rw [hmm]; split <;> omega
    have hpx : ∀ i, i < len → ∃ k : Pa.S44, ∀ t u, (pc k)[t]? = some u → w.cell? (a.add (i * 4 + t)) = some u := by
      intro i hi
      obtain ⟨cs', h1, h2⟩ := hx i (by omega)
      rw [cells44] at h1
      obtain ⟨_, hlen, hcell⟩ := World.cells?_some h1
      obtain ⟨k, rfl⟩ := px_of h2
      refine ⟨k, fun t u hu => ?_⟩
      have ht : t < 4 := by have := (List.getElem?_eq_some_iff.1 hu).1; simpa [pc] using this
      have := hcell t ht
      rw [Go.Deep.add_add] at this
      rw [this, hu]
    obtain ⟨f, hf⟩ := @choose_lt Pa.S44 ⟨⟨0, 0, 0, 0⟩⟩ len _ hpx
    refine ⟨some a, len, cap, (List.range len).map f, rfl, hl, ⟨by simp, Nat.le_trans hl hml, fun _ => ⟨a, rfl, fun j p hp => ?_⟩⟩, by simp⟩
    have hj := (List.getElem?_eq_some_iff.1 hp).1
    simp only [List.length_map, List.length_range] at hj
    have hp' : f j = p := by simpa [hj] using hp
    subst hp'
    exact ⟨_, rfl, Pa.k44_mk w _, fun t u hu => hf j hj t u hu⟩

theorem im_of {n : Nat} {cs : List Value} {y : DataW H × List MemPlace} (h : DataW.trod enc Tryz.prog w base spare held n 31 cs = some y) :
    ∃ (z0 z1 : Int) (A : Option Addr) (c : Nat) (l : List Pa.S44), cs = [.int .i64 z0, .int .i64 z1, .slice A l.length c] ∧ l.length ≤ c ∧ Kd.C Pa.k44 w A l.length l := by
  obtain ⟨xs, m, _, rfl, hl, hx, hf⟩ := DataW.trod_struct Tryz.underlying31 h
  rw [cells31] at hl
  match cs, hl, xs, hx with
  | [v0, v1, v2], _, [y0, y1, y2], _ =>
    have g0 := hf 0 _ rfl
    have g1 := hf 1 _ rfl
    have g2 := hf 2 _ rfl
    simp [cells3, cells29] at g0 g1 g2
    obtain ⟨z0, rfl⟩ := int_of g0
    obtain ⟨z1, rfl⟩ := int_of g1
    obtain ⟨A, len, c, l, rfl, hlc, hp, rfl⟩ := pix_of g2
    exact ⟨z0, z1, A, c, l, rfl, hlc, hp⟩
end
end Go.Proofs.YtkchkfmggbejfaaGreatDoor
