/- The reference's shrink, Resize, New, Evicted. -/
import Derived.Test.YtpdjfcnlbaaogaaR
namespace Go.Proofs.Ytpdjfcnlbaaogaa
open Go.RowKit

theorem drop_erase0 {α : Type} (l : List α) (j : Nat) : (l.drop j).eraseIdx 0 = l.drop (j + 1) := by
  rw [List.eraseIdx_zero, List.tail_drop]

theorem RRep.setEv {w : World} {B p : Nat} {s : Mo.Ca} {vk vi : Value} {vs : List Value} (h : RRep w B p s vk vi vs) (n : Int) : RRep (w.setCell ⟨p, 1, none⟩ (.int .i64 n)) B p { s with ev := n } vk vi vs :=
  ⟨blk_set h.blk 1 _, own_set h.ks (own_notblock h.ks h.blk (by decide)) _, own_set h.is (own_notblock h.is h.blk (by decide)) _, h.len, fun j v i h1 h2 => (h.im j v i h1 h2).frame (Fr.setCell (F := fun b => b = p) (a := ⟨p, 1, none⟩) (Fr.refl _ _) (.inl rfl) _) (fun b hb => h.pNot b (.inl hb)), h.hp⟩
theorem RRep.setBud {w : World} {B p : Nat} {s : Mo.Ca} {vk vi : Value} {vs : List Value} (h : RRep w B p s vk vi vs) (n : Int) : RRep (w.setCell ⟨p, 0, none⟩ (.int .i64 n)) B p { s with bud := n } vk vi vs :=
  ⟨blk_set h.blk 0 _, own_set h.ks (own_notblock h.ks h.blk (by decide)) _, own_set h.is (own_notblock h.is h.blk (by decide)) _, h.len, fun j v i h1 h2 => (h.im j v i h1 h2).frame (Fr.setCell (F := fun b => b = p) (a := ⟨p, 0, none⟩) (Fr.refl _ _) (.inl rfl) _) (fun b hb => h.pNot b (.inl hb)), h.hp⟩

theorem RRep.drew {w : World} {B p : Nat} {s : Mo.Ca} {vk vi : Value} {vs : List Value} (h : RRep w B p s vk vi vs) : RRep w.drew B p s vk vi vs := h.below (Below.drew (Below.refl _ _))

set_option maxHeartbeats 1000000 in
theorem shrink_rep {w : World} {B p : Nat} {s : Mo.Ca} {vk vi : Value} {vs : List Value} (h : RRep w B p s vk vi vs) (hB : B ≤ w.heap.size) (hn : s.l.length ≤ 4096) (hb0 : 0 ≤ s.bud) :
    Calls Try.prog 44 #[.pointer (some ⟨p, 0, none⟩)] w fun e w' => e = .returned (.int .i64 ((Mo.over s : Nat) : Int)) ∧ RTo w w' B p (Mo.shrink s) vk vi ∧ Fr w w' (foot p []) := by
  have hlt := (Array.getElem?_eq_some_iff.1 h.blk).1
  have H := Lib.hid h
  clear h
  have hov : Mo.over s = s.l.length - s.bud.toNat := rfl
  go_enter Try.func44, Try.ntmps44
  go_wp2_with fail
  go_loopw [3] (fun v3 wr => ∃ (j : Nat) (vk' vi' : Value) (vs' : List Value), j ≤ Mo.over s ∧ v3 = .int .i64 j ∧ RRep wr B p { s with l := s.l.drop j } vk' vi' vs' ∧ (∀ b, vk'.ownBlock = some b → vk.ownBlock = some b ∨ w.heap.size ≤ b) ∧ (∀ b, vi'.ownBlock = some b → vi.ownBlock = some b ∨ w.heap.size ≤ b) ∧ Fr w wr (foot p [])) (fun v3 _ => Mo.over s - (intOf v3).toNat)
  case atStart => exact ⟨0, vk, vi, vs, Nat.zero_le _, rfl, H.out, fun b h => .inl h, fun b h => .inl h, Fr.refl _ _⟩
  case round =>
    obtain ⟨j, vk', vi', vs', hj, rfl, hr, hk, hi, hf⟩ := hrel
    obtain ⟨Ak, ck, hvk⟩ := own_slice hr.ks
    have hblk := hr.blk
    have hL : ({ s with l := s.l.drop j } : Mo.Ca).l.length = s.l.length - j := by simp
    rw [hvk, hL] at hblk
    obtain ⟨c0, c1, c2, c3, c4, f0, f1, f2, f3, f4⟩ := blk5 hblk
    have hsz := hf.size
    have hj4 : j ≤ 4096 := by omega
    have Hr := Lib.hid hr
    have Hk := Lib.hid hk
    have Hi := Lib.hid hi
    have Hf := Lib.hid hf
    have Hvk := Lib.hid hvk
    have Hov := Lib.hid hov
    by_cases hlt2 : j < Mo.over s
    · have htest : decide (s.bud < ((s.l.length - j : Nat) : Int)) = true := by simp; omega
      clear hblk hr hk hi hf hvk hL hov
      go_wp2_with fail
      go_region
      go_wp2_with fail
      refine (take_at (s := { s with l := s.l.drop j }) Hr.out.drew (Nat.le_trans hB hsz) (by simp; omega) 0 (by have := Hov.out; simp; omega) Hr.out.drew.pNot).mono ?_
      rintro e w3 ⟨rfl, vk3, vi3, h3, hb3, hf3⟩
      go_wp2
      go_roundw
      case rel =>
        refine ⟨j + 1, vk3, vi3, _, by omega, by go_num, by rw [← drop_erase0]; exact h3, fun b h => .inr (Nat.le_trans hsz (hb3 b (.inl h))), fun b h => .inr (Nat.le_trans hsz (hb3 b (.inr h))), Hf.out.drew.trans hf3⟩
      case measure => simp [intOf]; exact Nat.sub_lt_sub_left hlt2 (Nat.lt_succ_self _)
    · have hjo : j = Mo.over s := by omega
      have htest : decide (s.bud < ((s.l.length - j : Nat) : Int)) = false := by simp; omega
      have Hjo := Lib.hid hjo
      clear hblk hr hk hi hf hvk hL hov hjo
      go_wp2_with fail
      go_region
      go_wp2
      go_ret
      have h5 := RRep.setEv Hr.out (wrap64 (s.ev + (j : Int)))
      rw [← Hjo.out]
      refine ⟨rfl, ⟨vk', vi', vs', ?_, Hk.out, Hi.out⟩, ?_⟩
      · have : Mo.shrink s = { s with l := s.l.drop j, ev := wrap64 (s.ev + (j : Int)) } := by rw [Mo.shrink, Hjo.out]
        rw [this]
        exact h5.drew
      · exact Fr.drew (Fr.setCell Hf.out (.inl (.inl rfl)) _)

theorem RAt.of {w w' : World} {B p : Nat} {s' : Mo.Ca} {vk vi : Value} (hok : Mo.Ok s') (hB : B ≤ w'.heap.size) (h : RTo w w' B p s' vk vi) (hf : Fr w w' (foot p [vk.ownBlock, vi.ownBlock])) : ∃ F', RAt w' B p s' F' ∧ Stp w w' (foot p [vk.ownBlock, vi.ownBlock]) F' := by
  obtain ⟨vk', vi', vs', hr, hk, hi⟩ := h
  refine ⟨foot p [vk'.ownBlock, vi'.ownBlock], ⟨hok, hB, vk', vi', vs', hr, rfl⟩, hf, ?_⟩
  rintro b (h | h)
  · exact .inl (.inl h)
  · simp only [List.mem_cons, List.not_mem_nil, or_false] at h
    rcases h with h | h
    · rcases hk b h.symm with h | h
      · exact .inl (.inr (by simp [h]))
      · exact .inr h
    · rcases hi b h.symm with h | h
      · exact .inl (.inr (by simp [h]))
      · exact .inr h
theorem foot_wide {p : Nat} {l : List (Option Nat)} : ∀ b, foot p [] b → foot p l b := fun _ hb => hb.elim .inl fun h => by simp at h

theorem rresize_any {w : World} {B p : Nat} {s : Mo.Ca} {F : Nat → Prop} (h : RAt w B p s F) (n : Int) : Calls Try.prog 33 #[.pointer (some ⟨p, 0, none⟩), .int .i64 n] w fun e w' => e = .returned (.int .i64 ((Mo.over { s with bud := Mo.lim n } : Nat) : Int)) ∧ ∃ F', RAt w' B p (Mo.resize n s) F' ∧ Stp w w' F F' := by
  obtain ⟨hok, hB, vk, vi, vs, hr, rfl⟩ := h
  obtain ⟨c0, c1, c2, c3, c4, f0, f1, f2, f3, f4⟩ := blk5 hr.blk
  have hlen : s.l.length ≤ 4096 := by have := hok.len; have := hok.b1; omega
  have Hr := Lib.hid hr
  clear hr
  go_enter Try.func33, Try.ntmps33
  go_wp2_with (first
    | (go_at_call 36; refine (rmade_is p true _ c4).mono ?_; rintro e w1 ⟨rfl, rfl⟩)
    | (go_at_call 24; refine (clamp_any n _).mono ?_; rintro e w1 ⟨rfl, rfl⟩)
    | fail)
  have h1 := Hr.out.setBud (Mo.lim n)
  have hf1 : Fr w (w.setCell ⟨p, 0, none⟩ (.int .i64 (Mo.lim n))) (foot p [vk.ownBlock, vi.ownBlock]) := Fr.setCell (Fr.refl _ _) (.inl (.inl rfl)) _
  refine (shrink_rep h1 (Nat.le_trans hB hf1.size) hlen (by simp [Mo.lim]; omega)).mono ?_
  rintro e w2 ⟨rfl, ht, hf2⟩
  go_wp2
  go_ret
  refine ⟨rfl, ?_⟩
  have hst : Fr w w2 (foot p [vk.ownBlock, vi.ownBlock]) := hf1.trans (hf2.mono foot_wide)
  refine RAt.of (ok_resize hok n) (Nat.le_trans hB hst.size) ?_ hst
  obtain ⟨vk', vi', vs', hr, hk, hi⟩ := ht
  exact ⟨vk', vi', vs', hr, fun b hb => (hk b hb).imp id (Nat.le_trans hf1.size), fun b hb => (hi b hb).imp id (Nat.le_trans hf1.size)⟩

theorem rnew_any (n : Int) (w : World) (B : Nat) (hB : B ≤ w.heap.size) : Calls Try.prog 10 #[.int .i64 n] w fun e w' => ∃ p F, e = .returned (.pointer (some ⟨p, 0, none⟩)) ∧ RAt w' B p (Mo.new n) F ∧ Below w.heap.size w w' ∧ ∀ b, F b → w.heap.size ≤ b := by
  go_enter Try.func10, Try.ntmps10
  go_wp2_with (go_at_call 24; refine (clamp_any n _).mono ?_; rintro e w1 ⟨rfl, rfl⟩)
  go_ret
  refine ⟨w.heap.size, foot w.heap.size [none, none], rfl, ?_, Below.alloc (Below.refl _ _) (Nat.le_refl _) _, ?_⟩
  · exact ⟨ok_new n, by simp; omega, .slice none 0 0, .slice none 0 0, [], ⟨blk_new w _, World.ownsRow_nil _ _ _ _, World.ownsRow_nil _ _ _ _, rfl, fun j v i h => by simp at h, hB⟩, rfl⟩
  · rintro b (h | h)
    · omega
    · simp at h

theorem revicted_any {w : World} {B p : Nat} {s : Mo.Ca} {F : Nat → Prop} (h : RAt w B p s F) : Calls Try.prog 16 #[.pointer (some ⟨p, 0, none⟩)] w fun e w' => e = .returned (.int .i64 s.ev) ∧ w = w' := by
  obtain ⟨_, _, vk, vi, vs, hr, rfl⟩ := h
  obtain ⟨c0, c1, c2, c3, c4, _⟩ := blk5 hr.blk
  clear hr
  go_enter Try.func16, Try.ntmps16
  go_wp2_with (go_at_call 36; refine (rmade_is p true _ c4).mono ?_; rintro e w1 ⟨rfl, rfl⟩)
  go_ret
  exact ⟨rfl, rfl⟩

theorem rremove_any {w : World} {B p : Nat} {s : Mo.Ca} {F : Nat → Prop} (h : RAt w B p s F) (k : Mo.Ky) : Calls Try.prog 31 #[.pointer (some ⟨p, 0, none⟩), kv k] w fun e w' => e = .returned (.bool (Mo.look k s.l).isSome) ∧ ∃ F', RAt w' B p (Mo.remove k s) F' ∧ Stp w w' F F' := by
  obtain ⟨hok, hB, vk, vi, vs, hr, rfl⟩ := h
  have hlen : s.l.length ≤ 4096 := by have := hok.len; have := hok.b1; omega
  refine (rremove_rep hr hB hlen hok.nd k).mono ?_
  rintro e w' ⟨rfl, ht, hf⟩
  exact ⟨rfl, RAt.of (ok_remove hok k) (Nat.le_trans hB hf.size) ht (hf.mono foot_wide)⟩
end Go.Proofs.Ytpdjfcnlbaaogaa
