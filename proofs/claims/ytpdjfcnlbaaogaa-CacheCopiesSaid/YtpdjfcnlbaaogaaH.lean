/- The methods of the program's cache. -/
import Derived.Test.YtpdjfcnlbaaogaaG
namespace Go.Proofs.Ytpdjfcnlbaaogaa
open Go.RowKit

theorem evicted_any {w : World} {B p : Nat} {s : Mo.Ca} {F : Nat → Prop} (h : CAt w B p s F) : Calls Try.prog 15 #[.pointer (some ⟨p, 0, none⟩)] w fun e w' => e = .returned (.int .i64 s.ev) ∧ w = w' := by
  obtain ⟨_, _, m, vo, ms, hr, rfl⟩ := h
  obtain ⟨c0, c1, c2, c3, f0, f1, f2, f3⟩ := blk4 hr.blk
  clear hr
  go_enter Try.func15, Try.ntmps15
  go_wp2_with (go_at_call 34; refine (made_yes p m _ c1).mono ?_; rintro e w1 ⟨rfl, rfl⟩)
  go_ret
  exact ⟨rfl, rfl⟩

theorem keys_any {w : World} {B p : Nat} {s : Mo.Ca} {F : Nat → Prop} (h : CAt w B p s F) : Calls Try.prog 13 #[.pointer (some ⟨p, 0, none⟩)] w fun e w' => ∃ v', e = .returned v' ∧ w'.ownsRow w.heap.size 29 5 v' (Mo.keys s).length (flatK (Mo.keys s)) ∧ Below w.heap.size w w' := by
  obtain ⟨hok, _, m, vo, ms, hr, rfl⟩ := h
  obtain ⟨c0, c1, c2, c3, f0, f1, f2, f3⟩ := blk4 hr.blk
  have ho := hr.ord
  have hl : (Mo.keys s).length = s.l.length := by simp [Mo.keys]
  rw [← hl] at ho
  have hn : (Mo.keys s).length ≤ 4096 := by have := hok.len; have := hok.b1; omega
  clear hr hl
  go_enter Try.func13, Try.ntmps13
  go_wp2_with (first
    | (go_at_call 34; refine (made_yes p m _ c1).mono ?_; rintro e w1 ⟨rfl, rfl⟩)
    | (go_at_call 35; refine (cloneK_own B vo _ _ _ ho hn).mono ?_; rintro e w1 ⟨v', rfl, ho', hb'⟩))
  go_ret
  exact ⟨_, rfl, ho', hb'⟩

def zeroIm : Value := .agg #[.int .i64 0, .int .i64 0, .slice none 0 0]

theorem remove_no {w : World} {B p : Nat} {s : Mo.Ca} {F : Nat → Prop} (h : CAt w B p s F) (k : Mo.Ky) (hk : Mo.look k s.l = none) : Calls Try.prog 30 #[.pointer (some ⟨p, 0, none⟩), kv k] w fun e w' => e = .returned (.bool false) ∧ Below w.heap.size w w' := by
  obtain ⟨hok, _, m, vo, ms, hr, rfl⟩ := h
  obtain ⟨c0, c1, c2, c3, f0, f1, f2, f3⟩ := blk4 hr.blk
  have hlt := (Array.getElem?_eq_some_iff.1 hr.blk).1
  have hal : ∀ o, Below w.heap.size w (w.alloc o) := fun o => Below.alloc (Below.refl _ _) (Nat.le_refl _) o
  have hsk : Mo.look k ms = none := by
    have := hr.ims k
    rw [hk] at this
    cases h : Mo.look k ms with
    | none => rfl
    | some v => rw [h] at this; exact this.elim
  rw [look_eq_seek] at hsk
  have hsk : seek k ms 0 = none := by simpa using hsk
  obtain ⟨es, ck, hes, hent⟩ := hr.map
  have hlk1 := lookup45 (w.alloc (.cells #[.int .i64 k.node, .int .i64 k.stamp, .int .i64 k.level, .int .i64 k.x, .int .i64 k.y] 29)).drew m k es ck ms (blk_alloc _ hes) hent
  have hlk2 := lookup45 ((w.alloc (.cells #[.int .i64 k.node, .int .i64 k.stamp, .int .i64 k.level, .int .i64 k.x, .int .i64 k.y] 29)).alloc (.cells #[.int .i64 0, .int .i64 0, .slice none 0 0] 32)).drew m k es ck ms (blk_alloc _ (blk_alloc _ hes)) hent
  simp only [hsk, kv, Option.map_none, Option.getD_none, Option.isSome_none] at hlk1 hlk2
  clear hr hes hent
  unfold kv
  go_enter Try.func30, Try.ntmps30
  go_wp2_with (go_at_call 34; refine (made_yes p m _ (by simpa using (hal _).cell (p := ⟨p, 1, none⟩) hlt ▸ c1)).mono ?_; rintro e w1 ⟨rfl, rfl⟩)
  go_region
  all_goals
    go_wp2
    go_ret
    refine ⟨rfl, ?_⟩
    repeat (first | exact Below.refl _ _ | refine Below.drew ?_ | refine Below.setCell ?_ (by simp) _ | refine Below.alloc ?_ (by simp) _)

theorem forget_at {w : World} {B p : Nat} (s : Mo.Ca) (k : Mo.Ky) (m : Nat) (vo : Value) (hp : w.heap[p]? = some (.cells #[.int .i64 s.bud, .map (some m), vo, .int .i64 s.ev] 47 (0, 0))) (ho : w.ownsRow B 29 5 vo s.l.length (flatK (Mo.keys s))) (hok : Mo.Ok s) :
    Calls Try.prog 45 #[.pointer (some ⟨p, 0, none⟩), kv k] w fun e w' => e = .returned (.tuple #[]) ∧ ∃ vo', w'.heap[p]? = some (.cells #[.int .i64 s.bud, .map (some m), vo', .int .i64 s.ev] 47 (0, 0)) ∧ w'.ownsRow B 29 5 vo' (Mo.rm k s.l).length (flatK ((Mo.rm k s.l).map (·.1))) ∧ vo'.ownBlock = vo.ownBlock ∧ Fr w w' (foot p [vo.ownBlock]) := by
  have hl : s.l.length = (Mo.keys s).length := by simp [Mo.keys]
  rw [hl] at ho
  refine (forget_row B p k _ _ _ vo (Mo.keys s) w hp ho hok.nd (by have := hok.len; have := hok.b1; omega)).mono ?_
  rintro e w' ⟨rfl, vo', h1, h2, h3, h4⟩
  refine ⟨rfl, vo', h1, ?_, h3, h4⟩
  rw [keys_rm]
  have : (Mo.rm k s.l).length = (rmK k (Mo.keys s)).length := by rw [← List.length_map (f := (·.1)), keys_rm]; rfl
  rw [this]; exact h2

theorem ok_rm {s : Mo.Ca} (h : Mo.Ok s) (k : Mo.Ky) : Mo.Ok (Mo.remove k s) := by
  refine ⟨h.b0, h.b1, ?_, ?_⟩
  · have := List.length_filter_le (fun p : Mo.Ky × Mo.Im => !(p.1 == k)) s.l
    have h2 := h.len
    simp only [Mo.remove, Mo.rm]
    omega
  · simp only [Mo.remove]
    rw [keys_rm]
    exact h.nd.filter _

theorem remove_yes {w : World} {B p : Nat} {s : Mo.Ca} {F : Nat → Prop} (h : CAt w B p s F) (k : Mo.Ky) (i : Mo.Im) (hk : Mo.look k s.l = some i) : Calls Try.prog 30 #[.pointer (some ⟨p, 0, none⟩), kv k] w fun e w' => e = .returned (.bool true) ∧ ∃ F', CAt w' B p (Mo.remove k s) F' ∧ Stp w w' F F' := by
  have hnp := h.notPix
  obtain ⟨hok, hB, m, vo, ms, hr, rfl⟩ := h
  obtain ⟨c0, c1, c2, c3, f0, f1, f2, f3⟩ := blk4 hr.blk
  have hlt := (Array.getElem?_eq_some_iff.1 hr.blk).1
  have hal : ∀ o, Below w.heap.size w (w.alloc o) := fun o => Below.alloc (Below.refl _ _) (Nat.le_refl _) o
  obtain ⟨v, hsk⟩ : ∃ v, Mo.look k ms = some v := by
    have := hr.ims k
    rw [hk] at this
    cases h : Mo.look k ms with
    | none => rw [h] at this; exact this.elim
    | some v => exact ⟨v, rfl⟩
  have him := hr.ims k
  rw [hk, hsk] at him
  obtain ⟨vp, rfl, howp⟩ := him
  obtain ⟨Ap, cp, rfl⟩ := own_slice howp
  rw [look_eq_seek] at hsk
  obtain ⟨⟨j, u⟩, hsk, rfl⟩ := Option.map_eq_some_iff.1 hsk
  obtain ⟨es, ck, hes, hent⟩ := hr.map
  have hlk1 := lookup45 (w.alloc (.cells #[.int .i64 k.node, .int .i64 k.stamp, .int .i64 k.level, .int .i64 k.x, .int .i64 k.y] 29)).drew m k es ck ms (blk_alloc _ hes) hent
  have hlk2 := lookup45 ((w.alloc (.cells #[.int .i64 k.node, .int .i64 k.stamp, .int .i64 k.level, .int .i64 k.x, .int .i64 k.y] 29)).alloc (.cells #[.int .i64 0, .int .i64 0, .slice none 0 0] 32)).drew m k es ck ms (blk_alloc _ (blk_alloc _ hes)) hent
  simp only [hsk, kv, Option.map_some, Option.getD_some, Option.isSome_some] at hlk1 hlk2
  have Hr := Lib.hid hr
  clear hr hes hent hsk howp
  unfold kv
  go_enter Try.func30, Try.ntmps30
  go_wp2_with (go_at_call 34; refine (made_yes p m _ (by simpa using (hal _).cell (p := ⟨p, 1, none⟩) hlt ▸ c1)).mono ?_; rintro e w1 ⟨rfl, rfl⟩)
  go_region
  all_goals
    go_wp2_with fail
    obtain ⟨W, hW⟩ : ∃ W, W = ((w.alloc (.cells #[.int .i64 k.node, .int .i64 k.stamp, .int .i64 k.level, .int .i64 k.x, .int .i64 k.y] 29)).alloc (.cells #[.int .i64 i.w, .int .i64 i.h, .slice Ap i.pix.length cp] 32)).drew := ⟨_, rfl⟩
    rw [← hW]
    have hbW : Below w.heap.size w W := by rw [hW]; exact ((Below.alloc (Below.refl _ _) (Nat.le_refl _) _).alloc (by simp) _).drew
    have hkW : W.heap[w.heap.size]? = some (.cells #[.int .i64 k.node, .int .i64 k.stamp, .int .i64 k.level, .int .i64 k.x, .int .i64 k.y] 29 (0, 0)) := by rw [hW]; exact blk_alloc _ (blk_new w _)
    clear hW hlk1 hlk2
    obtain ⟨es, ck, hes, hent⟩ := Hr.out.map
    have hesW := blk_in hbW hes
    obtain ⟨es', hdel, hent'⟩ := delete45 W.drew 0 m k es ck ms hesW hent
    obtain ⟨k0, k1, k2, k3, k4, _, _, _, _, _⟩ := blk5 hkW
    obtain ⟨a0, a1, a2, a3, b0, b1, b2, b3⟩ := blk4 (blk_in hbW Hr.out.blk)
    have hkm : w.heap.size ≠ m := fun e => by rw [← e] at hes; have := (Array.getElem?_eq_some_iff.1 hes).1; omega
    have hpm : p ≠ m := fun e => by rw [← e, Hr.out.blk] at hes; simp at hes
    have hkW2 := map_far (w := W.drew) hkW hkm (.map es' ck)
    have hpW2 := map_far (w := W.drew) (blk_in hbW.drew Hr.out.blk) hpm (.map es' ck)
    have hmW2 : MapIs (ChangeMaps.setBlock W.drew m (.map es' ck)) m (del k ms) := ⟨es', ck, map_set (w := W.drew) hesW _, hent'⟩
    have hfW2 : Fr w (ChangeMaps.setBlock W.drew m (.map es' ck)) (fun b => b = m) := Fr.setBlock (Fr.drew (Fr.below hbW (fun b => b = m))) (m := m) (.inl rfl) _
    obtain ⟨q0, q1, q2, q3, q4, _, _, _, _, _⟩ := blk5 hkW2
    have Hdel := Lib.hid hdel
    have HpW2 := Lib.hid hpW2
    have HmW2 := Lib.hid hmW2
    have HfW2 := Lib.hid hfW2
    clear hdel hkW hkW2 hpW2 hbW hesW hes hent hent' hmW2 hfW2 c0 c1 c2 c3 f0 f1 f2 f3
    go_region_law (refine step_delete_run rfl (.tmp 24) (.tmp 25) 45 29 rfl (.map (some m)) (kv k) (.tuple #[]) (by rfl) (by rfl) Hdel.out ?_)
    all_goals
      go_wp2_with fail
      refine (forget_at s k m vo HpW2.out (own_frame Hr.out.ord HfW2.out (fun b hb e => ?_)) hok).mono ?_
      · obtain ⟨cs, hc⟩ := own_typed Hr.out.ord b hb
        obtain ⟨es, ck, hes, _⟩ := Hr.out.map
        rw [e, hes] at hc; simp at hc
      rintro e w3 ⟨rfl, vo', hp3, ho3, hb3, hf3⟩
      go_wp2
      go_ret
      have hst : Fr w w3 (foot p [some m, vo.ownBlock]) := (HfW2.out.mono fun b hb => .inr (by simp [hb])).trans (hf3.mono fun b hb => hb.elim .inl fun h => .inr (by simp at h; simp [h]))
      refine ⟨rfl, _, ⟨ok_rm hok k, Nat.le_trans hB hst.size, m, vo', del k ms, ⟨hp3, HmW2.out.frame hf3 ?_, ?_, nodup_del k ms Hr.out.nd, ?_, Hr.out.hp, Hr.out.hm⟩, rfl⟩, hst, ?_⟩
      · rintro (h | h)
        · exact hpm h.symm
        · simp only [List.mem_cons, List.not_mem_nil, or_false] at h
          obtain ⟨cs, hc⟩ := own_typed Hr.out.ord m h.symm
          obtain ⟨es, ck, hes, _⟩ := Hr.out.map
          rw [hes] at hc; simp at hc
      · exact ho3
      · intro q
        rw [look_del k q ms Hr.out.nd]
        show RelI w3 B _ (Mo.look q (Mo.rm k s.l))
        rw [look_rm]
        split
        · trivial
        · exact (Hr.out.ims q).frame hst hnp
      · intro b hb
        rw [hb3] at hb
        exact .inl hb
end Go.Proofs.Ytpdjfcnlbaaogaa
