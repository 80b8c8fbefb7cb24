/- (c *Cache).Resize, Drop, New. -/
import Derived.Test.YtpdjfcnlbaaogaaJ
namespace Go.Proofs.Ytpdjfcnlbaaogaa
open Go.RowKit

theorem resize_any {w : World} {B p : Nat} {s : Mo.Ca} {F : Nat → Prop} (h : CAt w B p s F) (n : Int) : Calls Try.prog 32 #[.pointer (some ⟨p, 0, none⟩), .int .i64 n] w fun e w' => e = .returned (.int .i64 ((Mo.over { s with bud := Mo.lim n } : Nat) : Int)) ∧ ∃ F', CAt w' B p (Mo.resize n s) F' ∧ Stp w w' F F' := by
  have hnp := h.notPix
  obtain ⟨hok, hB, m, vo, ms, hr, rfl⟩ := h
  obtain ⟨c0, c1, c2, c3, f0, f1, f2, f3⟩ := blk4 hr.blk
  have hlt := (Array.getElem?_eq_some_iff.1 hr.blk).1
  have hpm : p ≠ m := by rintro rfl; obtain ⟨es, ck, hes, _⟩ := hr.map; rw [hr.blk] at hes; simp at hes
  have Hr := Lib.hid hr
  clear hr
  go_enter Try.func32, Try.ntmps32
  go_wp2_with (first
    | (go_at_call 34; refine (made_yes p m _ c1).mono ?_; rintro e w1 ⟨rfl, rfl⟩)
    | (go_at_call 23; refine (limited_any n _).mono ?_; rintro e w1 ⟨rfl, rfl⟩)
    | fail)
  have hp1 := blk_set Hr.out.blk 0 (.int .i64 (Mo.lim n))
  have ho1 : (w.setCell ⟨p, 0, none⟩ (.int .i64 (Mo.lim n))).ownsRow B 29 5 vo s.l.length (flatK (Mo.keys s)) := own_set Hr.out.ord (own_notblock Hr.out.ord Hr.out.blk (by decide)) _
  have hm1 : MapIs (w.setCell ⟨p, 0, none⟩ (.int .i64 (Mo.lim n))) m ms := by
    obtain ⟨es, ck, hes, hen⟩ := Hr.out.map
    exact ⟨es, ck, blk_far hes (Ne.symm hpm) _, hen⟩
  have hlim : 0 ≤ Mo.lim n ∧ Mo.lim n ≤ 1024 := by simp [Mo.lim]; omega
  have hf1 : Fr w (w.setCell ⟨p, 0, none⟩ (.int .i64 (Mo.lim n))) (foot p [some m, vo.ownBlock]) := Fr.setCell (Fr.refl _ _) (.inl (.inl rfl)) _
  have hlen : s.l.length ≤ 4000 := by have := hok.len; have := hok.b1; omega
  refine (evict_at { s with bud := Mo.lim n } m vo ms hp1 ho1 hm1 hlim.1 hlim.2 hlen (Nat.le_trans hB hf1.size)).mono ?_
  rintro e w4 ⟨rfl, vo4, hp4, ho4, hm4, hb4, hf4⟩
  go_wp2
  go_ret
  have hst : Fr w w4 (foot p [some m, vo.ownBlock]) := hf1.trans (hf4.mono fun b hb => hb.elim .inl fun h => .inr (by simp at h; simp [h]))
  obtain ⟨hnd4, hlk4⟩ := delAll_spec ((Mo.keys { s with bud := Mo.lim n }).take (Mo.over { s with bud := Mo.lim n })) ms Hr.out.nd
  refine ⟨rfl, _, ⟨ok_resize hok n, Nat.le_trans hB hst.size, m, vo4, _, ⟨hp4, hm4, ho4, hnd4, fun q => ?_, Hr.out.hp, Hr.out.hm⟩, rfl⟩, hst, ?_⟩
  · rw [hlk4 q]
    show RelI w4 B _ (Mo.look q (s.l.drop (Mo.over { s with bud := Mo.lim n })))
    rw [look_drop _ s.l hok.nd]
    show RelI w4 B (if q ∈ List.take (Mo.over { s with bud := Mo.lim n }) (s.l.map (·.1)) then none else Mo.look q ms) _
    split
    · trivial
    · exact (Hr.out.ims q).frame hst hnp
  · rintro b (h | h)
    · exact .inl (.inl h)
    · simp only [List.mem_cons, Option.some.injEq, List.not_mem_nil, or_false] at h
      rcases h with h | h
      · exact .inl (.inr (by simp [h]))
      · exact .inr (Nat.le_trans hf1.size (hb4 b h.symm))

theorem new_any (n : Int) (w : World) (B : Nat) (hB : B ≤ w.heap.size) : Calls Try.prog 9 #[.int .i64 n] w fun e w' => ∃ p F, e = .returned (.pointer (some ⟨p, 0, none⟩)) ∧ CAt w' B p (Mo.new n) F ∧ Below w.heap.size w w' ∧ ∀ b, F b → w.heap.size ≤ b := by
  have hmm := @run_makeMap Try.prog
  go_enter Try.func9, Try.ntmps9
  go_wp2_with (go_at_call 23; refine (limited_any n _).mono ?_; rintro e w1 ⟨rfl, rfl⟩)
  go_ret
  refine ⟨w.heap.size + 1, foot (w.heap.size + 1) [some w.heap.size, none], rfl, ?_, ?_, ?_⟩
  · refine ⟨ok_new n, by simp; omega, w.heap.size, .slice none 0 0, [], ⟨blk_at _ _ _ (by simp), ⟨#[], 0, blk_alloc _ (blk_new w _), by simp [Ents]⟩, World.ownsRow_nil _ _ _ _, by simp, fun k => by simp [look_nil, Mo.new, RelI], by omega, hB⟩, rfl⟩
  · repeat (first | exact Below.refl _ _ | refine Below.drew ?_ | refine Below.setCell ?_ (by first | (simp; done) | (simp; omega)) _ | refine Below.alloc ?_ (by first | (simp; done) | (simp; omega)) _)
  · rintro b (h | h)
    · omega
    · simp at h; omega
end Go.Proofs.Ytpdjfcnlbaaogaa
