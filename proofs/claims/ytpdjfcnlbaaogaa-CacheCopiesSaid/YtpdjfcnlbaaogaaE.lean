/- (c *Cache).forget and (c *Cache).use: a key out of the order, and to its end. -/
import Derived.Test.YtpdjfcnlbaaogaaD
namespace Go.Proofs.Ytpdjfcnlbaaogaa
open Go.RowKit

def rmK (k : Mo.Ky) (ks : List Mo.Ky) : List Mo.Ky := ks.filter (fun q => !(q == k))

theorem posn_cases (k : Mo.Ky) (ks : List Mo.Ky) (hn : ks.Nodup) : (posn k ks = -1 ∧ rmK k ks = ks) ∨ ∃ i : Nat, i < ks.length ∧ posn k ks = i ∧ rmK k ks = ks.eraseIdx i := by
  unfold posn
  cases h : ks.findIdx? (fun q => q == k) with
  | none =>
    left
    refine ⟨rfl, ?_⟩
    rw [List.findIdx?_eq_none_iff] at h
    exact List.filter_eq_self.2 fun q hq => by simp [h q hq]
  | some i =>
    right
    rw [List.findIdx?_eq_some_iff_getElem] at h
    obtain ⟨hi, hk, hlt⟩ := h
    refine ⟨i, hi, rfl, ?_⟩
    have hk' : ks[i] = k := by simpa using hk
    have h1 : ks = ks.take i ++ ks[i] :: ks.drop (i + 1) := by rw [List.getElem_cons_drop, List.take_append_drop]
    rw [List.eraseIdx_eq_take_drop_succ]
    have hn' := hn
    rw [h1] at hn'
    rw [List.nodup_append] at hn'
    obtain ⟨_, h2, h3⟩ := hn'
    unfold rmK
    conv => lhs; rw [h1]
    rw [List.filter_append, List.filter_cons]
    simp only [hk', beq_self_eq_true, Bool.not_true, Bool.false_eq_true, if_false]
    congr 1
    · refine List.filter_eq_self.2 fun q hq => ?_
      have := h3 q hq ks[i] (List.mem_cons_self ..)
      rw [hk'] at this
      simpa using this
    · refine List.filter_eq_self.2 fun q hq => ?_
      have := (List.nodup_cons.1 h2).1
      rw [hk'] at this
      have hne : q ≠ k := fun e => this (e ▸ hq)
      simpa using hne

theorem index_nil (kb : Nat) (w : World) :
    Calls Try.prog 48 #[.slice none 0 0, .func (.func 49) #[] #[.pointer (some ⟨kb, 0, none⟩)]] w fun e w' => e = .returned (.int .i64 (-1)) ∧ w = w' := by
  go_enter Try.func48, Try.ntmps48
  go_wp2_with fail
  go_loopw [8] (fun v wr => v = .int .i64 0 ∧ w = wr) (fun _ _ => 0)
  case atStart => exact ⟨rfl, rfl⟩
  case round =>
    obtain ⟨rfl, rfl⟩ := hrel
    go_wp2
    go_ret
    exact ⟨rfl, rfl⟩

theorem forget_row (B p : Nat) (k : Mo.Ky) (b0 b1 b3 vo : Value) (ks : List Mo.Ky) (w : World) (hp : w.heap[p]? = some (.cells #[b0, b1, vo, b3] 47 (0, 0))) (hv : w.ownsRow B 29 5 vo ks.length (flatK ks)) (hn : ks.Nodup) (hl : ks.length ≤ 4096) :
    Calls Try.prog 45 #[.pointer (some ⟨p, 0, none⟩), kv k] w fun e w' => e = .returned (.tuple #[]) ∧ ∃ vo', w'.heap[p]? = some (.cells #[b0, b1, vo', b3] 47 (0, 0)) ∧ w'.ownsRow B 29 5 vo' (rmK k ks).length (flatK (rmK k ks)) ∧ vo'.ownBlock = vo.ownBlock ∧ Fr w w' (foot p [vo.ownBlock]) := by
  obtain ⟨c0, c1, c2, c3, f0, f1, f2, f3⟩ := blk4 hp
  have hlt := World.block_lt_of_cell? w _ c0
  have hne := own_notblock hv hp (by decide)
  rcases hv.2 with ⟨rfl, h0⟩ | ⟨g, cap, cur, rfl, hbg, hg, hcap, hmax, hsz, htk⟩
  · have hk0 : ks = [] := List.eq_nil_of_length_eq_zero h0
    subst hk0
    have hal : ∀ o, Below w.heap.size w (w.alloc o) := fun o => Below.alloc (Below.refl _ _) (Nat.le_refl _) o
    unfold kv
    go_enter Try.func45, Try.ntmps45
    go_wp2_with fail
    refine (index_nil w.heap.size _).mono ?_
    rintro e w1 ⟨rfl, rfl⟩
    go_wp2
    go_end0
    exact ⟨rfl, _, blk_alloc _ hp, World.ownsRow_nil _ _ _ _, rfl, Fr.below (hal _) _⟩
  · have Hp := Lib.hid hp
    have Hv := Lib.hid hv
    clear hp hv hg htk hsz
    have hal : ∀ o, Below w.heap.size w (w.alloc o) := fun o => Below.alloc (Below.refl _ _) (Nat.le_refl _) o
    rcases posn_cases k ks hn with ⟨hpos, hrm⟩ | ⟨i, hi, hpos, hrm⟩
    · have Hpos := Lib.hid hpos
      have Hrm := Lib.hid hrm
      clear hpos hrm
      unfold kv
      go_enter Try.func45, Try.ntmps45
      go_wp2_with fail
      refine (index_some B g ks.length cap ks k w.heap.size _ (own_below Hv.out (hal _)) rfl hl (blk_new w _)).mono ?_
      rintro e w1 ⟨he, hb⟩
      rw [Hpos.out] at he
      subst he
      go_wp2
      go_end0
      refine ⟨rfl, _, blk_in hb (blk_alloc _ Hp.out), ?_, rfl, ?_⟩
      · rw [Hrm.out]; exact own_below (own_below Hv.out (hal _)) hb
      · exact (Fr.below (hal _) _).trans (Fr.below hb _)
    · have Hpos := Lib.hid hpos
      have Hrm := Lib.hid hrm
      clear hpos hrm
      unfold kv
      go_enter Try.func45, Try.ntmps45
      go_wp2_with fail
      refine (index_some B g ks.length cap ks k w.heap.size _ (own_below Hv.out (hal _)) rfl hl (blk_new w _)).mono ?_
      rintro e w1 ⟨he, hb⟩
      rw [Hpos.out] at he
      subst he
      have hp1 := blk_in hb (blk_alloc _ Hp.out)
      have hv1 := own_below (own_below Hv.out (hal _)) hb
      obtain ⟨c0', c1', c2', c3', f0', f1', f2', f3'⟩ := blk4 hp1
      have Hp1 := Lib.hid hp1
      have Hv1 := Lib.hid hv1
      clear hp1 hv1 c0 c1 c2 c3 f0 f1 f2 f3
      go_wp2_with fail
      refine (delete_some B g ks.length cap i ks _ Hv1.out rfl hl hi).mono ?_
      rintro e w2 ⟨rfl, ho, hf⟩
      have hp2 : w2.heap[p]? = _ := (hf.block p (Array.getElem?_eq_some_iff.1 Hp1.out).1 (fun e => hne (by simp [Value.ownBlock, e]))).trans Hp1.out
      obtain ⟨d0, d1, d2, d3, e0, e1, e2, e3⟩ := blk4 hp2
      clear c0' c1' c2' c3' f0' f1' f2' f3'
      go_wp2
      go_end0
      refine ⟨rfl, _, blk_set hp2 2 _, own_set ?_ hne _, rfl, Fr.setCell ?_ (.inl (.inl rfl)) _⟩
      · rw [Hrm.out, List.length_eraseIdx, if_pos hi]; exact ho
      · exact ((Fr.below (hal _) _).trans ((Fr.below hb _))).trans (hf.mono fun b hb => .inr (by simp [hb, Value.ownBlock]))
end Go.Proofs.Ytpdjfcnlbaaogaa
