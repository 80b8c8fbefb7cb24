/- A call of a cache. -/
import Derived.Test.YtpdjfcnlbaaogaaX
namespace Go.Proofs.Ytpdjfcnlbaaogaa
open Go.RowKit

namespace Mo
structure Cl where
  kind : Int
  n : Int
  k : Ky
  i : Im
def act (x : Cl) (s : Ca) : Ca := if x.kind = 0 then get x.k s else if x.kind = 1 then put x.k x.i s else if x.kind = 2 then drop x.n s else if x.kind = 3 then remove x.k s else if x.kind = 4 then resize x.n s else s
def Small (i : Im) : Prop := i.pix.length * 32 ≤ 140737488355328
def Sm (s : Ca) : Prop := ∀ q ∈ s.l, Small q.2
theorem look_mem {k : Ky} {l : List (Ky × Im)} {i : Im} (h : look k l = some i) : (k, i) ∈ l := by
  unfold look at h
  cases h1 : l.find? (fun p => p.1 == k) with
  | none => rw [h1] at h; simp at h
  | some q =>
    rw [h1] at h
    have h2 := List.mem_of_find?_eq_some h1
    have h3 := List.find?_some h1
    simp at h h3
    obtain ⟨a, b⟩ := q
    simp at h h3
    subst h; subst h3; exact h2
theorem Sm.found {s : Ca} (h : Sm s) {k : Ky} {i : Im} (hk : look k s.l = some i) : Small i := by
  have h1 := h (k, i) (look_mem hk)
  exact h1
theorem Sm.rm {s : Ca} (h : Sm s) (k : Ky) : ∀ q ∈ rm k s.l, Small q.2 := fun q hq => h q (List.mem_filter.1 hq).1
theorem Sm.use {s : Ca} (h : Sm s) (k : Ky) (i : Im) (hi : Small i) : Sm (use k i s) := by
  intro q hq
  simp only [Mo.use, List.mem_append, List.mem_singleton] at hq
  rcases hq with hq | rfl
  · exact h.rm k q hq
  · exact hi
theorem Sm.get {s : Ca} (h : Sm s) (k : Ky) : Sm (get k s) := by
  unfold Mo.get
  split
  · exact h
  · rename_i i hi; exact h.use k i (h.found hi)
theorem Sm.shrink {s : Ca} (h : Sm s) : Sm (shrink s) := fun q hq => h q (List.mem_of_mem_drop hq)
theorem Sm.put {s : Ca} (h : Sm s) (k : Ky) (i : Im) (hi : Small i) : Sm (put k i s) := by
  unfold Mo.put
  split
  · exact h
  · exact (h.use k i hi).shrink
theorem Sm.act {s : Ca} (h : Sm s) (x : Cl) (hi : Small x.i) : Sm (act x s) := by
  unfold Mo.act
  split
  · exact h.get _
  · split
    · exact h.put _ _ hi
    · split
      · exact fun q hq => h q (List.mem_filter.1 hq).1
      · split
        · exact fun q hq => h.rm x.k q hq
        · split
          · have h' : Sm { s with bud := lim x.n } := h
            exact h'.shrink
          · exact h
theorem Sm.new (n : Int) : Sm (new n) := fun q hq => by simp [Mo.new] at hq
end Mo

theorem CAt.below {w w' : World} {B p : Nat} {s : Mo.Ca} {F : Nat → Prop} (h : CAt w B p s F) (hb : Below w.heap.size w w') : CAt w' B p s F :=
  h.frame (Fr.below hb Nof) (fun _ _ h => h.elim) (fun _ h => h.elim)
theorem RAt.below {w w' : World} {B p : Nat} {s : Mo.Ca} {F : Nat → Prop} (h : RAt w B p s F) (hb : Below w.heap.size w w') : RAt w' B p s F :=
  h.frame (Fr.below hb Nof) (fun _ _ h => h.elim) (fun _ h => h.elim)
theorem Stp.below {w w' : World} (hb : Below w.heap.size w w') (F : Nat → Prop) : Stp w w' F F := ⟨Fr.below hb F, fun _ h => .inl h⟩
theorem rm_none {k : Mo.Ky} {l : List (Mo.Ky × Mo.Im)} (h : Mo.look k l = none) : Mo.rm k l = l := by
  unfold Mo.rm
  rw [List.filter_eq_self]
  intro q hq
  unfold Mo.look at h
  simp only [Option.map_eq_none_iff, List.find?_eq_none] at h
  have := h q hq
  simpa using this

/-- Get, whichever. -/
theorem get_any {w : World} {B p : Nat} {s : Mo.Ca} {F : Nat → Prop} (h : CAt w B p s F) (k : Mo.Ky) (hs : Mo.Sm s) : Calls Try.prog 19 #[.pointer (some ⟨p, 0, none⟩), kv k] w fun e w' => (∃ v' b, e = .returned (.tuple #[v', .bool b]) ∧ b = (Mo.look k s.l).isSome ∧ (∀ i, Mo.look k s.l = some i → ImIs w' w.heap.size v' i) ∧ (Mo.look k s.l = none → v' = zeroIm)) ∧ ∃ F', CAt w' B p (Mo.get k s) F' ∧ Stp w w' F F' := by
  cases hk : Mo.look k s.l with
  | none =>
    refine (get_no h k hk).mono ?_
    rintro e w' ⟨rfl, hb⟩
    refine ⟨⟨_, _, rfl, rfl, fun i hi => by simp at hi, fun _ => rfl⟩, F, ?_, Stp.below hb F⟩
    unfold Mo.get
    rw [hk]
    exact h.below hb
  | some i =>
    refine (get_yes h k i hk (hs.found hk)).mono ?_
    rintro e w' ⟨v', rfl, hi, F', hc, hst⟩
    refine ⟨⟨_, _, rfl, rfl, fun j hj => by simp at hj; subst hj; exact hi, fun h => by simp at h⟩, F', ?_, hst⟩
    unfold Mo.get
    rw [hk]
    exact hc
theorem put_any {w : World} {B p : Nat} {s : Mo.Ca} {F : Nat → Prop} (h : CAt w B p s F) (k : Mo.Ky) (v : Value) (i : Mo.Im) (hi : InIm w v i) : Calls Try.prog 26 #[.pointer (some ⟨p, 0, none⟩), kv k, v] w fun e w' => e = .returned (.tuple #[]) ∧ ∃ F', CAt w' B p (Mo.put k i s) F' ∧ Stp w w' F F' := by
  obtain ⟨A, n, c, rfl, hi⟩ := hi
  by_cases h0 : s.bud = 0
  · refine (put_none h k i A n c h0).mono ?_
    rintro e w' ⟨rfl, hb⟩
    refine ⟨rfl, F, ?_, Stp.below hb F⟩
    unfold Mo.put
    rw [if_pos h0]
    exact h.below hb
  · exact put_some h k i A n c h0 hi
theorem remove_any {w : World} {B p : Nat} {s : Mo.Ca} {F : Nat → Prop} (h : CAt w B p s F) (k : Mo.Ky) : Calls Try.prog 30 #[.pointer (some ⟨p, 0, none⟩), kv k] w fun e w' => e = .returned (.bool (Mo.look k s.l).isSome) ∧ ∃ F', CAt w' B p (Mo.remove k s) F' ∧ Stp w w' F F' := by
  cases hk : Mo.look k s.l with
  | none =>
    refine (remove_no h k hk).mono ?_
    rintro e w' ⟨rfl, hb⟩
    refine ⟨rfl, F, ?_, Stp.below hb F⟩
    unfold Mo.remove
    rw [rm_none hk]
    exact h.below hb
  | some i => exact remove_yes h k i hk

def clv (x : Mo.Cl) (A : Option Addr) (n c : Nat) : Value := .agg #[.int .i64 x.kind, .int .i64 x.n, .int .i64 x.k.node, .int .i64 x.k.stamp, .int .i64 x.k.level, .int .i64 x.k.x, .int .i64 x.k.y, .int .i64 x.i.w, .int .i64 x.i.h, .slice A n c]

theorem do_any {w : World} {B p : Nat} {s : Mo.Ca} {F : Nat → Prop} (h : CAt w B p s F) (x : Mo.Cl) (A : Option Addr) (n c : Nat) (hi : PixIn w A n x.i.pix) (hs : Mo.Sm s) : Calls Try.prog 18 #[.pointer (some ⟨p, 0, none⟩), clv x A n c] w fun e w' => e = .returned (.tuple #[]) ∧ ∃ F', CAt w' B p (Mo.act x s) F' ∧ Stp w w' F F' := by
  obtain ⟨kind, nn, k, i⟩ := x
  have Hs := Lib.hid hs
  have Hc := Lib.hid h
  have hal : ∀ o, Below w.heap.size w (w.alloc o) := fun o => Below.alloc (Below.refl _ _) (Nat.le_refl _) o
  unfold clv
  simp only at hi ⊢
  go_enter Try.func18, Try.ntmps18
  unfold Mo.act
  simp only
  by_cases e0 : kind = 0
  · subst e0
    go_wp2_with fail
    refine (get_any (h.below (hal _)) k Hs.out).mono ?_
    rintro e w1 ⟨⟨v', b, rfl, _⟩, F', hc, hst⟩
    go_wp2
    go_end0
    exact ⟨rfl, F', by simpa using hc, (Stp.below (hal _) F).trans hst⟩
  by_cases e1 : kind = 1
  · subst e1
    go_wp2_with fail
    refine (put_any (h.below (hal _)) k _ i ⟨A, n, c, rfl, hi.below (hal _)⟩).mono ?_
    rintro e w1 ⟨rfl, F', hc, hst⟩
    go_wp2
    go_end0
    exact ⟨rfl, F', by simpa using hc, (Stp.below (hal _) F).trans hst⟩
  by_cases e2 : kind = 2
  · subst e2
    go_wp2_with fail
    refine (drop_any (h.below (hal _)) nn).mono ?_
    rintro e w1 ⟨rfl, F', hc, hst⟩
    go_wp2
    go_end0
    exact ⟨rfl, F', by simpa using hc, (Stp.below (hal _) F).trans hst⟩
  by_cases e3 : kind = 3
  · subst e3
    go_wp2_with fail
    refine (remove_any (h.below (hal _)) k).mono ?_
    rintro e w1 ⟨rfl, F', hc, hst⟩
    go_wp2
    go_end0
    exact ⟨rfl, F', by simpa using hc, (Stp.below (hal _) F).trans hst⟩
  by_cases e4 : kind = 4
  · subst e4
    go_wp2_with fail
    refine (resize_any (h.below (hal _)) nn).mono ?_
    rintro e w1 ⟨rfl, F', hc, hst⟩
    go_wp2
    go_end0
    exact ⟨rfl, F', by simpa using hc, (Stp.below (hal _) F).trans hst⟩
  · go_wp2
    go_end0
    exact ⟨rfl, F, by simpa [e0, e1, e2, e3, e4] using Hc.out.below (hal _), Stp.below (hal _) F⟩
end Go.Proofs.Ytpdjfcnlbaaogaa
