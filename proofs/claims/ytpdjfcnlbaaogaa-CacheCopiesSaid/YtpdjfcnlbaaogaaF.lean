/- (c *Cache).use. -/
import Derived.Test.YtpdjfcnlbaaogaaE
namespace Go.Proofs.Ytpdjfcnlbaaogaa
open Go.RowKit

set_option maxHeartbeats 1000000 in
theorem use_row (B p : Nat) (k : Mo.Ky) (b0 b1 b3 vo : Value) (ks : List Mo.Ky) (w : World) (hp : w.heap[p]? = some (.cells #[b0, b1, vo, b3] 47 (0, 0))) (hv : w.ownsRow B 29 5 vo ks.length (flatK ks)) (hn : ks.Nodup) (hl : ks.length ≤ 4000) (hB : B ≤ w.heap.size) :
    Calls Try.prog 37 #[.pointer (some ⟨p, 0, none⟩), kv k] w fun e w' => e = .returned (.tuple #[]) ∧ ∃ vo', w'.heap[p]? = some (.cells #[b0, b1, vo', b3] 47 (0, 0)) ∧ w'.ownsRow B 29 5 vo' (rmK k ks ++ [k]).length (flatK (rmK k ks ++ [k])) ∧ (∀ b, vo'.ownBlock = some b → vo.ownBlock = some b ∨ w.heap.size ≤ b) ∧ Fr w w' (foot p [vo.ownBlock]) := by
  have hal : ∀ o, Below w.heap.size w (w.alloc o) := fun o => Below.alloc (Below.refl _ _) (Nat.le_refl _) o
  obtain ⟨i0, hi0, hz0, hz1, hz2⟩ := info_parts info29
  have hlt := (Array.getElem?_eq_some_iff.1 hp).1
  have Hp := Lib.hid hp
  have Hv := Lib.hid hv
  clear hp hv
  unfold kv
  go_enter Try.func37, Try.ntmps37
  go_wp2_with fail
  refine (forget_row B p k b0 b1 b3 vo ks _ (blk_alloc _ Hp.out) (own_below Hv.out (hal _)) hn (by omega)).mono ?_
  rintro e w1 ⟨rfl, vo1, hp1, hv1, hob, hf1⟩
  have hkb : w1.heap[w.heap.size]? = some (.cells #[.int .i64 k.node, .int .i64 k.stamp, .int .i64 k.level, .int .i64 k.x, .int .i64 k.y] 29 (0, 0)) := by
    refine (hf1.block _ (by simp) ?_).trans (blk_new w _)
    rintro (h | h)
    · omega
    · simp only [List.mem_cons, List.not_mem_nil, or_false] at h
      have := (Hv.out.lt _ h.symm).2
      omega
  obtain ⟨c0, c1, c2, c3, f0, f1, f2, f3⟩ := blk4 hp1
  obtain ⟨d0, d1, d2, d3, d4, _, _, _, _, _⟩ := blk5 hkb
  have hle : (rmK k ks).length ≤ ks.length := List.length_filter_le _ _
  have hne := own_notblock hv1 hp1 (by decide)
  have hlt1 := (Array.getElem?_eq_some_iff.1 hp1).1
  have hltk := (Array.getElem?_eq_some_iff.1 hkb).1
  have hne2 : vo1.ownBlock ≠ some w.heap.size := by
    rw [hob]; intro h; have := (Hv.out.lt _ h).2; omega
  have Hp1 := Lib.hid hp1
  have Hf1 := Lib.hid hf1
  have Hob := Lib.hid hob
  clear hp1 hkb c0 c1 c3 f0 f1 f3 hf1 hob
  go_wp2_with fail
  go_region_law (refine step_append_lies _ (by rfl) _ _ _ (by rfl) B 29 i0 _ 5 40 Try.underlying36 hi0 hz0 hz1 hz2 rfl (by omega) vo1 (rmK k ks).length (flatK (rmK k ks)) (by rfl) ((hv1.alloc _).drew) ⟨w1.heap.size, 0, none⟩ 1 1 (kcells k) (by rfl) (by rfl) (World.news_of_block (cs := (kcells k).toArray) (t := 29) (fr := (0, 0)) (heap_alloc_new w1 _)) (by simp [Value.oneCell', kcells]) (by omega) (by simp [maxLen]; omega) (by omega) (by simp; omega) (w1.heap.size + 1) (by simp) ?_; intro gg cap w2 hown2 hgrow hat hlt2; have hp2 : w2.heap[p]? = _ := (hgrow.block p (by simp; omega) (Ne.symm hne)).trans (blk_alloc _ Hp1.out); have cz := (blk4 hp2).2.2.1; have fz := (blk4 hp2).2.2.2.2.2.2.1; have Hp2 := Lib.hid hp2; clear hp2)
  all_goals
    go_end0
    have hs := Hf1.out.size
    simp only [World.size_alloc] at hs
    refine ⟨rfl, _, blk_set Hp2.out 2 _, own_set ?_ ?_ _, ?_, Fr.setCell ?_ (.inl (.inl rfl)) _⟩
    · simpa [flatK_append, flatK] using hown2
    · exact own_notblock hown2 Hp2.out (by decide)
    · intro b hb
      simp only [Value.ownBlock, Option.some.injEq] at hb
      subst hb
      rcases hat with h | h
      · exact .inl (by rw [← Hob.out]; exact h)
      · right; omega
    · refine Fr.grown (Fr.drew (Fr.alloc ((Fr.below (hal _) _).trans (Hf1.out)) _)) hgrow ?_
      intro b hb
      rw [Hob.out] at hb
      exact .inl (.inr (by simp [hb]))
end Go.Proofs.Ytpdjfcnlbaaogaa
