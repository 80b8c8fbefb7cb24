/- What CacheValues needs of the plain cache. -/
import Derived.Test.YtpdjfcnlbaaogaaLb
namespace Go.Proofs.Ytpdjfcnlbaaogaa
open Go.RowKit

def rowAt (rs : List Row) (j : Nat) : Row := rs.getD j default
theorem rowAt_get (rs : List Row) (j : Nat) (h : j < rs.length) : rowAt rs j = rs[j] := by simp [rowAt, List.getD, h]

/-- The last place before j at which a Put of k stands, or -1. -/
def lastPut (rs : List Row) (k : Mo.Ky) : Nat → Int
  | 0 => -1
  | j + 1 => if (rowAt rs j).x.kind = 1 ∧ (rowAt rs j).x.k = k then (j : Int) else lastPut rs k j

def Kn (rs : List Row) (j : Nat) (s : Mo.Ca) : Prop := ∀ q ∈ s.l, ∃ t : Nat, t < j ∧ lastPut rs q.1 j = (t : Int) ∧ (rowAt rs t).x.i = q.2

theorem Kn.get {rs : List Row} {j : Nat} {s : Mo.Ca} (h : Kn rs j s) (k : Mo.Ky) : Kn rs j (Mo.get k s) := by
  unfold Mo.get
  cases h1 : Mo.look k s.l with
  | none => exact h
  | some i =>
    intro q hq
    simp only [Mo.use, List.mem_append, List.mem_singleton] at hq
    rcases hq with hq | rfl
    · exact h q (List.mem_filter.1 hq).1
    · exact h _ (Mo.look_mem h1)

theorem Kn.next {rs : List Row} {j : Nat} {s : Mo.Ca} (h : Kn rs j s) {q : Mo.Ky × Mo.Im} (hq : q ∈ s.l) (hn : ¬ ((rowAt rs j).x.kind = 1 ∧ (rowAt rs j).x.k = q.1)) : ∃ t : Nat, t < j + 1 ∧ lastPut rs q.1 (j + 1) = (t : Int) ∧ (rowAt rs t).x.i = q.2 := by
  obtain ⟨t, h1, h2, h3⟩ := h q hq
  exact ⟨t, by omega, by rw [lastPut, if_neg hn]; exact h2, h3⟩

theorem Kn.act {rs : List Row} {j : Nat} {s : Mo.Ca} (h : Kn rs j s) (hok : Mo.Ok s) : Kn rs (j + 1) (Mo.act (rowAt rs j).x s) := by
  intro q hq
  unfold Mo.act at hq
  by_cases h1 : (rowAt rs j).x.kind = 1
  · rw [if_neg (by omega), if_pos h1] at hq
    unfold Mo.put at hq
    split at hq
    · rename_i h0
      have := hok.len
      have hl : s.l = [] := by
        apply List.eq_nil_of_length_eq_zero; omega
      rw [hl] at hq; simp at hq
    · have hq2 := List.mem_of_mem_drop hq
      simp only [Mo.use, List.mem_append, List.mem_singleton] at hq2
      rcases hq2 with hq2 | rfl
      · have hq3 := List.mem_filter.1 hq2
        exact h.next hq3.1 fun hh => by
          have := hq3.2
          simp only [Bool.not_eq_true', beq_eq_false_iff_ne] at this
          exact this hh.2.symm
      · exact ⟨j, by omega, by rw [lastPut, if_pos ⟨h1, rfl⟩], rfl⟩
  · have hs : q ∈ s.l := by
      split at hq
      · unfold Mo.get at hq
        cases h2 : Mo.look (rowAt rs j).x.k s.l with
        | none => rw [h2] at hq; exact hq
        | some i =>
          rw [h2] at hq
          simp only [Mo.use, List.mem_append, List.mem_singleton] at hq
          rcases hq with hq | rfl
          · exact (List.mem_filter.1 hq).1
          · exact Mo.look_mem h2
      · split at hq
        · exact (List.mem_filter.1 hq).1
        · split at hq
          · exact (List.mem_filter.1 hq).1
          · split at hq
            · exact List.mem_of_mem_drop hq
            · exact hq
    exact h.next hs fun hh => h1 hh.1
theorem Kn.new (rs : List Row) (n : Int) : Kn rs 0 (Mo.new n) := fun q hq => by simp [Mo.new] at hq

/-- What Get finds behind a Put. -/
theorem put_look (k : Mo.Ky) (i : Mo.Im) (s : Mo.Ca) (hok : Mo.Ok s) : Mo.look k (Mo.put k i s).l = if s.bud = 0 then none else some i := by
  unfold Mo.put
  by_cases h0 : s.bud = 0
  · rw [if_pos h0, if_pos h0]
    have := hok.len
    have hl : s.l = [] := by
      apply List.eq_nil_of_length_eq_zero; omega
    rw [hl]; rfl
  · rw [if_neg h0, if_neg h0]
    have hb := hok.b0
    simp only [Mo.shrink, Mo.use]
    have hm : Mo.over { s with l := Mo.rm k s.l ++ [(k, i)] } ≤ (Mo.rm k s.l).length := by
      simp only [Mo.over, List.length_append, List.length_singleton]
      omega
    rw [List.drop_append_of_le_length hm]
    unfold Mo.look
    rw [List.find?_append]
    have hn : ((Mo.rm k s.l).drop (Mo.over { s with l := Mo.rm k s.l ++ [(k, i)] })).find? (fun p => p.1 == k) = none := by
      rw [List.find?_eq_none]
      intro q hq
      have := (List.mem_filter.1 (List.mem_of_mem_drop hq)).2
      simpa using this
    rw [hn]
    simp
end Go.Proofs.Ytpdjfcnlbaaogaa
