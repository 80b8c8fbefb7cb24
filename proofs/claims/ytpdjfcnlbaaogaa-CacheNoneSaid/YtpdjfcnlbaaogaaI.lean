/- (c *Cache).Get. -/
import Derived.Test.YtpdjfcnlbaaogaaH
import Derived.Test.YtpdjfcnlbaaogaaPm
namespace Go.Proofs.Ytpdjfcnlbaaogaa
open Go.RowKit

theorem blk_at (W : World) (o : Obj) (b : Nat) (h : b = W.heap.size) : (W.alloc o).heap[b]? = some o := by subst h; exact blk_new W o
theorem ImIs.lower {w : World} {B B' : Nat} {v : Value} {i : Mo.Im} (h : ImIs w B v i) (hb : B' ≤ B) : ImIs w B' v i := by
  obtain ⟨vp, rfl, ho⟩ := h
  exact ⟨vp, rfl, own_lower ho hb⟩

theorem use_at {w : World} {B p : Nat} (s : Mo.Ca) (k : Mo.Ky) (i : Mo.Im) (m : Nat) (vo : Value) (hp : w.heap[p]? = some (.cells #[.int .i64 s.bud, .map (some m), vo, .int .i64 s.ev] 47 (0, 0))) (ho : w.ownsRow B 29 5 vo s.l.length (flatK (Mo.keys s))) (hok : Mo.Ok s) (hB : B ≤ w.heap.size) :
    Calls Try.prog 37 #[.pointer (some ⟨p, 0, none⟩), kv k] w fun e w' => e = .returned (.tuple #[]) ∧ ∃ vo', w'.heap[p]? = some (.cells #[.int .i64 s.bud, .map (some m), vo', .int .i64 s.ev] 47 (0, 0)) ∧ w'.ownsRow B 29 5 vo' (Mo.use k i s).l.length (flatK (Mo.keys (Mo.use k i s))) ∧ (∀ b, vo'.ownBlock = some b → vo.ownBlock = some b ∨ w.heap.size ≤ b) ∧ Fr w w' (foot p [vo.ownBlock]) := by
  have hl : s.l.length = (Mo.keys s).length := by simp [Mo.keys]
  rw [hl] at ho
  refine (use_row B p k _ _ _ vo (Mo.keys s) w hp ho hok.nd (by have := hok.len; have := hok.b1; omega) hB).mono ?_
  rintro e w' ⟨rfl, vo', h1, h2, h3, h4⟩
  refine ⟨rfl, vo', h1, ?_, h3, h4⟩
  have e1 : Mo.keys (Mo.use k i s) = rmK k (Mo.keys s) ++ [k] := by
    simp only [Mo.keys, Mo.use, List.map_append, keys_rm, List.map_cons, List.map_nil]; rfl
  have e2 : (Mo.use k i s).l.length = (rmK k (Mo.keys s) ++ [k]).length := by rw [← e1]; simp [Mo.keys]
  rw [e1, e2]; exact h2

theorem get_no {w : World} {B p : Nat} {s : Mo.Ca} {F : Nat → Prop} (h : CAt w B p s F) (k : Mo.Ky) (hk : Mo.look k s.l = none) : Calls Try.prog 19 #[.pointer (some ⟨p, 0, none⟩), kv k] w fun e w' => e = .returned (.tuple #[zeroIm, .bool false]) ∧ Below w.heap.size w w' := by
  obtain ⟨hok, _, m, vo, ms, hr, rfl⟩ := h
  obtain ⟨c0, c1, c2, c3, f0, f1, f2, f3⟩ := blk4 hr.blk
  have hlt := (Array.getElem?_eq_some_iff.1 hr.blk).1
  have hlt1 : p < w.heap.size + 1 := by omega
  have hlt2 : p < w.heap.size + 1 + 1 := by omega
  have hsk : Mo.look k ms = none := by
    have := hr.ims k
    rw [hk] at this
    cases h : Mo.look k ms with
    | none => rfl
    | some v => rw [h] at this; exact this.elim
  rw [look_eq_seek] at hsk
  have hsk : seek k ms 0 = none := by simpa using hsk
  obtain ⟨es, ck, hes, hent⟩ := hr.map
  have hlk1 := lookup45 ((w.alloc (.cells #[.int .i64 k.node, .int .i64 k.stamp, .int .i64 k.level, .int .i64 k.x, .int .i64 k.y] 29)).alloc (.cells #[.int .i64 0, .int .i64 0, .slice none 0 0] 32)).drew m k es ck ms (blk_alloc _ (blk_alloc _ hes)) hent
  have hlk2 := lookup45 (((w.alloc (.cells #[.int .i64 k.node, .int .i64 k.stamp, .int .i64 k.level, .int .i64 k.x, .int .i64 k.y] 29)).alloc (.cells #[.int .i64 0, .int .i64 0, .slice none 0 0] 32)).alloc (.cells #[.int .i64 0, .int .i64 0, .slice none 0 0] 32)).drew m k es ck ms (blk_alloc _ (blk_alloc _ (blk_alloc _ hes))) hent
  simp only [hsk, kv, Option.map_none, Option.getD_none, Option.isSome_none] at hlk1 hlk2
  have hp2 := blk_alloc (.cells #[.int .i64 0, .int .i64 0, .slice none 0 0] 32) (blk_alloc (.cells #[.int .i64 k.node, .int .i64 k.stamp, .int .i64 k.level, .int .i64 k.x, .int .i64 k.y] 29) hr.blk)
  have cm := (blk4 hp2).2.1
  have Cm := Lib.hid cm
  clear hr hes hent hp2 cm
  unfold kv
  go_enter Try.func19, Try.ntmps19
  go_wp2_with (go_at_call 34; refine (made_yes p m _ Cm.out).mono ?_; rintro e w1 ⟨rfl, rfl⟩)
  go_region
  all_goals
    go_wp2
    refine bodyPost_ret (v := .tuple #[zeroIm, .bool false]) (by simp [results, Try.results19, go_sem, zeroIm]) rfl ⟨rfl, ?_⟩
    repeat (first | exact Below.refl _ _ | refine Below.drew ?_ | refine Below.setCell ?_ (by first | (simp; done) | (simp; omega)) _ | refine Below.alloc ?_ (by first | (simp; done) | (simp; omega)) _)

theorem get_yes {w : World} {B p : Nat} {s : Mo.Ca} {F : Nat → Prop} (h : CAt w B p s F) (k : Mo.Ky) (i : Mo.Im) (hk : Mo.look k s.l = some i) (hpx : i.pix.length * 32 ≤ 140737488355328) : Calls Try.prog 19 #[.pointer (some ⟨p, 0, none⟩), kv k] w fun e w' => ∃ v', e = .returned (.tuple #[v', .bool true]) ∧ ImIs w' w.heap.size v' i ∧ ∃ F', CAt w' B p (Mo.use k i s) F' ∧ Stp w w' F F' := by
  have hnp := h.notPix
  obtain ⟨hok, hB, m, vo, ms, hr, rfl⟩ := h
  obtain ⟨c0, c1, c2, c3, f0, f1, f2, f3⟩ := blk4 hr.blk
  have hlt := (Array.getElem?_eq_some_iff.1 hr.blk).1
  have hlt1 : p < w.heap.size + 1 := by omega
  have hlt2 : p < w.heap.size + 1 + 1 := by omega
  obtain ⟨v, hsk⟩ : ∃ v, Mo.look k ms = some v := by
    have := hr.ims k
    rw [hk] at this
    cases h : Mo.look k ms with
    | none => rw [h] at this; exact this.elim
    | some v => exact ⟨v, rfl⟩
  have him := hr.ims k
  rw [hk, hsk] at him
  obtain ⟨vp, rfl, howp⟩ := him
  obtain ⟨Ap, cp, rfl⟩ := own_slice howp
  rw [look_eq_seek] at hsk
  obtain ⟨⟨j, u⟩, hsk, rfl⟩ := Option.map_eq_some_iff.1 hsk
  obtain ⟨es, ck, hes, hent⟩ := hr.map
  have hlk1 := lookup45 ((w.alloc (.cells #[.int .i64 k.node, .int .i64 k.stamp, .int .i64 k.level, .int .i64 k.x, .int .i64 k.y] 29)).alloc (.cells #[.int .i64 0, .int .i64 0, .slice none 0 0] 32)).drew m k es ck ms (blk_alloc _ (blk_alloc _ hes)) hent
  have hlk2 := lookup45 (((w.alloc (.cells #[.int .i64 k.node, .int .i64 k.stamp, .int .i64 k.level, .int .i64 k.x, .int .i64 k.y] 29)).alloc (.cells #[.int .i64 0, .int .i64 0, .slice none 0 0] 32)).alloc (.cells #[.int .i64 0, .int .i64 0, .slice none 0 0] 32)).drew m k es ck ms (blk_alloc _ (blk_alloc _ (blk_alloc _ hes))) hent
  simp only [hsk, kv, Option.map_some, Option.getD_some, Option.isSome_some] at hlk1 hlk2
  have hp2 := blk_alloc (.cells #[.int .i64 0, .int .i64 0, .slice none 0 0] 32) (blk_alloc (.cells #[.int .i64 k.node, .int .i64 k.stamp, .int .i64 k.level, .int .i64 k.x, .int .i64 k.y] 29) hr.blk)
  have cm := (blk4 hp2).2.1
  have Cm := Lib.hid cm
  have Hr := Lib.hid hr
  have Hop := Lib.hid howp
  clear hr hes hent hsk howp hp2 cm
  unfold kv
  go_enter Try.func19, Try.ntmps19
  go_wp2_with (go_at_call 34; refine (made_yes p m _ Cm.out).mono ?_; rintro e w1 ⟨rfl, rfl⟩)
  go_region
  all_goals
    go_wp2_with fail
    obtain ⟨W, hW⟩ : ∃ W, W = (((w.alloc (.cells #[.int .i64 k.node, .int .i64 k.stamp, .int .i64 k.level, .int .i64 k.x, .int .i64 k.y] 29)).alloc (.cells #[.int .i64 0, .int .i64 0, .slice none 0 0] 32)).alloc (.cells #[.int .i64 i.w, .int .i64 i.h, .slice Ap i.pix.length cp] 32)).drew := ⟨_, rfl⟩
    rw [← hW]
    have hbW : Below w.heap.size w W := by rw [hW]; exact (((Below.alloc (Below.refl _ _) (Nat.le_refl _) _).alloc (by simp) _).alloc (by simp; omega) _).drew
    have hrW : W.heap[w.heap.size + 1]? = some (.cells #[.int .i64 0, .int .i64 0, .slice none 0 0] 32 (0, 0)) := by rw [hW]; exact blk_alloc _ (blk_at _ _ _ (by simp))
    have hiW : W.heap[w.heap.size + 1 + 1]? = some (.cells #[.int .i64 i.w, .int .i64 i.h, .slice Ap i.pix.length cp] 32 (0, 0)) := by rw [hW]; exact blk_at _ _ _ (by simp)
    clear hW hlk1 hlk2
    refine (use_at s k i m vo (blk_in hbW Hr.out.blk) (own_below Hr.out.ord hbW) hok (Nat.le_trans hB hbW.size)).mono ?_
    rintro e w3 ⟨rfl, vo', hp3, ho3, hb3, hf3⟩
    have hnew : ∀ b, w.heap.size ≤ b → ¬ foot p [vo.ownBlock] b := by
      rintro b hb (h | h)
      · omega
      · simp only [List.mem_cons, List.not_mem_nil, or_false] at h
        have := (Hr.out.ord.lt b h.symm).2
        omega
    have hr3 := (hf3.block _ (Array.getElem?_eq_some_iff.1 hrW).1 (hnew _ (by omega))).trans hrW
    have hi3 := (hf3.block _ (Array.getElem?_eq_some_iff.1 hiW).1 (hnew _ (by omega))).trans hiW
    have hst : Fr w w3 (foot p [some m, vo.ownBlock]) := (Fr.below hbW _).trans (hf3.mono fun b hb => hb.elim .inl fun h => .inr (by simp at h; simp [h]))
    have him3 : ImIs w3 B (.agg #[.int .i64 i.w, .int .i64 i.h, .slice Ap i.pix.length cp]) i := ImIs.frame ⟨_, rfl, Hop.out⟩ hst hnp
    have hin := him3.read hpx
    obtain ⟨i0, i1, i2, _, _, _⟩ := blk3 hi3
    have hsW := (Array.getElem?_eq_some_iff.1 hiW).1
    have hmlt : m < w.heap.size := by obtain ⟨es, c, h, _⟩ := Hr.out.map; exact (Array.getElem?_eq_some_iff.1 h).1
    have hst0 : Fr w w3 (foot p [vo.ownBlock]) := (Fr.below hbW _).trans hf3
    have hm0 : ¬ foot p [vo.ownBlock] m := by
      obtain ⟨es, c, h2, _⟩ := Hr.out.map
      rintro (h | h)
      · rw [h, Hr.out.blk] at h2; simp at h2
      · simp only [List.mem_cons, List.not_mem_nil, or_false] at h
        obtain ⟨cs, hc⟩ := own_typed Hr.out.ord m h.symm
        rw [hc] at h2; simp at h2
    have Hr3 := Lib.hid hr3
    have Hp3 := Lib.hid hp3
    clear hr3 hi3 hrW hiW hp3 c0 c1 c2 c3 f0 f1 f2 f3
    go_wp2_with fail
    refine (copied_in _ i w3 hin).mono ?_
    rintro e w4 ⟨v', rfl, hi4, hb4⟩
    have hi4' := hi4
    obtain ⟨vp', rfl, ho4⟩ := hi4
    obtain ⟨A4, c4, rfl⟩ := own_slice ho4
    have hW3 : w.heap.size + 1 + 1 < W.heap.size := hsW
    have hc3 : CAt w3 B p (Mo.use k i s) (foot p [some m, vo'.ownBlock]) := by
      refine ⟨ok_use hok hk, Nat.le_trans hB hst.size, m, vo', ms, ⟨Hp3.out, Hr.out.map.frame hst0 hm0, ho3, Hr.out.nd, fun q => ?_, Hr.out.hp, Hr.out.hm⟩, rfl⟩
      show RelI w3 B _ (Mo.look q (Mo.rm k s.l ++ [(k, i)]))
      rw [look_use]
      have := (Hr.out.ims q).frame hst hnp
      split
      · rename_i e; rw [e] at this ⊢; rw [hk] at this; exact this
      · exact this
    have hr4 := blk_in hb4 Hr3.out
    obtain ⟨r0, r1, r2, z0, z1, z2⟩ := blk3 hr4
    have Hr4 := Lib.hid hr4
    have Hi4 := Lib.hid hi4'
    clear hr4 hi4'
    have hfw : Fr w4 (((w4.setCell ⟨w.heap.size + 1, 0, none⟩ (.int .i64 i.w)).setCell ⟨w.heap.size + 1, 1, none⟩ (.int .i64 i.h)).setCell ⟨w.heap.size + 1, 2, none⟩ (.slice A4 i.pix.length c4)) (fun b => b = w.heap.size + 1) := Fr.setCell (Fr.setCell (Fr.setCell (Fr.refl w4 (fun b => b = w.heap.size + 1)) (a := ⟨w.heap.size + 1, 0, none⟩) (.inl rfl) _) (a := ⟨w.heap.size + 1, 1, none⟩) (.inl rfl) _) (a := ⟨w.heap.size + 1, 2, none⟩) (.inl rfl) _
    go_wp2
    refine bodyPost_ret (v := .tuple #[.agg #[.int .i64 i.w, .int .i64 i.h, .slice A4 i.pix.length c4], .bool true]) (by simp [results, Try.results19, go_sem, *]) rfl ⟨_, rfl, ?_, ?_⟩
    · refine (Hi4.out.lower (Nat.le_trans hbW.size hf3.size)).frame hfw ?_
      rintro b rfl cs fr hc
      rw [Hr4.out] at hc; simp at hc
    · refine ⟨foot p [some m, vo'.ownBlock], ?_, ?_, ?_⟩
      · refine (hc3.frame (Fr.below hb4 Nof) (fun _ _ h => h) (fun _ h => h.elim)).frame hfw ?_ ?_
        · rintro b hb rfl
          rcases hb with h | h
          · omega
          · simp only [List.mem_cons, Option.some.injEq, List.not_mem_nil, or_false] at h
            rcases h with h | h
            · omega
            · rcases hb3 _ h.symm with h | h
              · have := (Hr.out.ord.lt _ h).2; omega
              · omega
        · rintro b rfl cs fr hc
          rw [Hr4.out] at hc; simp at hc
      · exact Fr.setCell (Fr.setCell (Fr.setCell (hst.trans (Fr.below hb4 _)) (.inr (by simp)) _) (.inr (by simp)) _) (.inr (by simp)) _
      · rintro b (h | h)
        · exact .inl (.inl h)
        · simp only [List.mem_cons, Option.some.injEq, List.not_mem_nil, or_false] at h
          rcases h with h | h
          · exact .inl (.inr (by simp [h]))
          · rcases hb3 _ h.symm with h | h
            · exact .inl (.inr (by simp [h]))
            · exact .inr (Nat.le_trans hbW.size h)
end Go.Proofs.Ytpdjfcnlbaaogaa
