/- The methods of the reference's cache: New, Evicted, Remove, shrink, Resize. -/
import Derived.Test.YtpdjfcnlbaaogaaQ
namespace Go.Proofs.Ytpdjfcnlbaaogaa
open Go.RowKit

theorem eraseIdx_rm (k : Mo.Ky) (l : List (Mo.Ky × Mo.Im)) (hn : (l.map (·.1)).Nodup) (i : Nat) (h : posn k (l.map (·.1)) = i) : Mo.rm k l = l.eraseIdx i ∧ i < l.length ∧ ∃ im, l[i]? = some (k, im) ∧ Mo.look k l = some im := by
  unfold posn at h
  cases hf : (l.map (·.1)).findIdx? (fun q => q == k) with
  | none => rw [hf] at h; simp only at h; omega
  | some j =>
    rw [hf] at h
    have hji : j = i := by simp only at h; omega
    subst hji
    rw [List.findIdx?_eq_some_iff_getElem] at hf
    obtain ⟨hi, hk, _⟩ := hf
    have hil : j < l.length := by simpa using hi
    have hkk : l[j].1 = k := by simpa using hk
    have h1 : l = l.take j ++ l[j] :: l.drop (j + 1) := by rw [List.getElem_cons_drop, List.take_append_drop]
    have h2 : (l.map (·.1)) = (l.take j).map (·.1) ++ l[j].1 :: (l.drop (j + 1)).map (·.1) := by
      conv => lhs; rw [h1]
      rw [List.map_append, List.map_cons]
    rw [h2, List.nodup_append] at hn
    obtain ⟨_, h3, h4⟩ := hn
    have hne1 : ∀ p ∈ l.take j, p.1 ≠ k := fun p hp => by
      have := h4 p.1 (List.mem_map_of_mem hp) l[j].1 (List.mem_cons_self ..)
      rwa [hkk] at this
    have hne2 : ∀ p ∈ l.drop (j + 1), p.1 ≠ k := fun p hp e => by
      have := (List.nodup_cons.1 h3).1
      exact this (by rw [hkk, ← e]; exact List.mem_map_of_mem hp)
    refine ⟨?_, hil, l[j].2, ?_, ?_⟩
    · rw [List.eraseIdx_eq_take_drop_succ, Mo.rm]
      conv => lhs; rw [h1]
      rw [List.filter_append, List.filter_cons]
      simp only [hkk, beq_self_eq_true, Bool.not_true, Bool.false_eq_true, if_false]
      congr 1
      · exact List.filter_eq_self.2 fun p hp => by simpa using hne1 p hp
      · exact List.filter_eq_self.2 fun p hp => by simpa using hne2 p hp
    · rw [List.getElem?_eq_getElem hil, ← hkk]
    · have h5 : Mo.look k l = Mo.look k (l.take j ++ l[j] :: l.drop (j + 1)) := by rw [← h1]
      rw [h5, look_append, look_cons, hkk, if_pos rfl]
      have : Mo.look k (l.take j) = none := by
        rw [look_none_iff]
        intro hm
        obtain ⟨p, hp, he⟩ := List.mem_map.1 hm
        exact hne1 p hp he
      rw [this]; rfl
theorem posn_neg (k : Mo.Ky) (l : List (Mo.Ky × Mo.Im)) : (posn k (l.map (·.1)) = -1 ∧ Mo.look k l = none ∧ Mo.rm k l = l) ∨ ∃ i : Nat, posn k (l.map (·.1)) = i := by
  unfold posn
  cases hf : (l.map (·.1)).findIdx? (fun q => q == k) with
  | some j => exact .inr ⟨j, rfl⟩
  | none =>
    left
    rw [List.findIdx?_eq_none_iff] at hf
    refine ⟨rfl, ?_, ?_⟩
    · rw [look_none_iff]; intro hm; have := hf k hm; simp at this
    · exact List.filter_eq_self.2 fun p hp => by have := hf p.1 (List.mem_map_of_mem hp); simpa using this

theorem RRep.im3 {w : World} {B p : Nat} {s : Mo.Ca} {vk vi : Value} {vs : List Value} (h : RRep w B p s vk vi vs) : ∀ v ∈ vs, Im3 v := by
  intro v hv
  obtain ⟨j, hj, rfl⟩ := List.getElem_of_mem hv
  have hl : j < (s.l.map (·.2)).length := by simpa [h.len] using hj
  obtain ⟨vp, hvp, ho⟩ := h.im j vs[j] (s.l.map (·.2))[j] (List.getElem?_eq_getElem hj) (List.getElem?_eq_getElem hl)
  obtain ⟨A, c, rfl⟩ := own_slice ho
  exact ⟨⟨_, _, _, _, _, hvp⟩⟩

theorem take_at {w : World} {B p : Nat} {s : Mo.Ca} {vk vi : Value} {vs : List Value} (h : RRep w B p s vk vi vs) (hB : B ≤ w.heap.size) (hn : s.l.length ≤ 4096) (i : Nat) (hi : i < s.l.length) (hnp : ∀ b, foot p [] b → NotPix w b) :
    Calls Try.prog 42 #[.pointer (some ⟨p, 0, none⟩), .int .i64 i] w fun e w' => e = .returned (.tuple #[]) ∧ ∃ vk' vi', RRep w' B p { s with l := s.l.eraseIdx i } vk' vi' (vs.eraseIdx i) ∧ (∀ b, vk'.ownBlock = some b ∨ vi'.ownBlock = some b → w.heap.size ≤ b) ∧ Fr w w' (foot p []) := by
  have hl : (Mo.keys s).length = s.l.length := by simp [Mo.keys]
  have hk := h.ks
  have hv := h.is
  rw [← hl] at hk
  rw [← h.len] at hv
  refine (take_any _ _ vk vi _ (Mo.keys s) vs i h.blk hk hv h.im3 (by rw [hl, h.len]) (by omega) (by omega)).mono ?_
  rintro e w' ⟨rfl, vk', vi', h1, h2, h3, h4⟩
  refine ⟨rfl, vk', vi', ⟨h1, ?_, ?_, ?_, ?_, h.hp⟩, ?_, h4⟩
  · have e1 : Mo.keys { s with l := s.l.eraseIdx i } = (Mo.keys s).eraseIdx i := by simp only [Mo.keys, ChangeMaps.map_eraseIdx]
    have e2 : (s.l.eraseIdx i).length = ((Mo.keys s).eraseIdx i).length := by rw [← e1]; simp [Mo.keys]
    rw [e1]
    show w'.ownsRow B 29 5 vk' (s.l.eraseIdx i).length _
    rw [e2]; exact own_lower h2 hB
  · have e2 : (s.l.eraseIdx i).length = (vs.eraseIdx i).length := by rw [List.length_eraseIdx, List.length_eraseIdx, h.len]
    show w'.ownsRow B 32 3 vi' (s.l.eraseIdx i).length _
    rw [e2]; exact own_lower h3 hB
  · show (vs.eraseIdx i).length = (s.l.eraseIdx i).length
    rw [List.length_eraseIdx, List.length_eraseIdx, h.len]
  · intro j v im h5 h6
    have h6' : ((s.l.map (·.2)).eraseIdx i)[j]? = some im := by rw [← ChangeMaps.map_eraseIdx]; exact h6
    rw [List.getElem?_eraseIdx] at h5 h6'
    split at h5
    · rename_i hj; rw [if_pos hj] at h6'; exact (h.im _ _ _ h5 h6').frame h4 hnp
    · rename_i hj; rw [if_neg hj] at h6'; exact (h.im _ _ _ h5 h6').frame h4 hnp
  · rintro b (hb | hb)
    · exact (h2.lt b hb).1
    · exact (h3.lt b hb).1

theorem RRep.below {w w' : World} {B p : Nat} {s : Mo.Ca} {vk vi : Value} {vs : List Value} (h : RRep w B p s vk vi vs) (hb : Below w.heap.size w w') : RRep w' B p s vk vi vs :=
  ⟨blk_in hb h.blk, own_below h.ks hb, own_below h.is hb, h.len, fun j v i h1 h2 => (h.im j v i h1 h2).frame (Fr.below hb Nof) (fun _ h => h.elim), h.hp⟩
theorem RRep.pNot {w : World} {B p : Nat} {s : Mo.Ca} {vk vi : Value} {vs : List Value} (h : RRep w B p s vk vi vs) : ∀ b, foot p [] b → NotPix w b := by
  rintro b (rfl | h1) cs fr hc
  · rw [h.blk] at hc; simp at hc
  · simp at h1

/-- What an operation of the reference leaves: the cache of state s', in rows of which each is an old one or new. -/
def RTo (w w' : World) (B p : Nat) (s' : Mo.Ca) (vk vi : Value) : Prop :=
  ∃ vk' vi' vs', RRep w' B p s' vk' vi' vs' ∧ (∀ b, vk'.ownBlock = some b → vk.ownBlock = some b ∨ w.heap.size ≤ b) ∧ (∀ b, vi'.ownBlock = some b → vi.ownBlock = some b ∨ w.heap.size ≤ b)

theorem rremove_rep {w : World} {B p : Nat} {s : Mo.Ca} {vk vi : Value} {vs : List Value} (h : RRep w B p s vk vi vs) (hB : B ≤ w.heap.size) (hn : s.l.length ≤ 4096) (hnd : (s.l.map (·.1)).Nodup) (k : Mo.Ky) :
    Calls Try.prog 31 #[.pointer (some ⟨p, 0, none⟩), kv k] w fun e w' => e = .returned (.bool (Mo.look k s.l).isSome) ∧ RTo w w' B p (Mo.remove k s) vk vi ∧ Fr w w' (foot p []) := by
  have hlt := (Array.getElem?_eq_some_iff.1 h.blk).1
  have hal : ∀ o, Below w.heap.size w (w.alloc o) := fun o => Below.alloc (Below.refl _ _) (Nat.le_refl _) o
  have h1 := h.below (hal (.cells #[.int .i64 k.node, .int .i64 k.stamp, .int .i64 k.level, .int .i64 k.x, .int .i64 k.y] 29))
  have cm := (blk5 h1.blk).2.2.2.2.1
  have hkb := blk_new w (.cells #[.int .i64 k.node, .int .i64 k.stamp, .int .i64 k.level, .int .i64 k.x, .int .i64 k.y] 29)
  obtain ⟨W, hW⟩ : ∃ W, W = w.alloc (.cells #[.int .i64 k.node, .int .i64 k.stamp, .int .i64 k.level, .int .i64 k.x, .int .i64 k.y] 29) := ⟨_, rfl⟩
  have hbW : Below w.heap.size w W := by rw [hW]; exact hal _
  rw [← hW] at h1 cm hkb
  have hl : s.l.length = (s.l.map (·.1)).length := by simp
  have hks := h1.ks
  rw [hl] at hks
  have H1 := Lib.hid h1
  have HbW := Lib.hid hbW
  have HW := Lib.hid hW
  have Hl := Lib.hid hl
  have Hks := Lib.hid hks
  rcases posn_neg k s.l with ⟨hpos, hlk, hrm⟩ | ⟨i, hpos⟩
  · have Hpos := Lib.hid hpos
    have Hlk := Lib.hid hlk
    have Hrm := Lib.hid hrm
    clear h h1 hbW hW hl hks hpos hlk hrm
    unfold kv
    go_enter Try.func31, Try.ntmps31
    go_wp2_with fail
    rw [← HW.out]
    refine (rmade_is p true _ cm).mono ?_
    rintro e w1 ⟨rfl, rfl⟩
    obtain ⟨k0, k1, k2, k3, k4, _⟩ := blk5 hkb
    go_wp2_with fail
    refine (place_any _ _ vk vi _ (s.l.map (·.1)) k H1.out.blk Hks.out (by simp; omega)).mono ?_
    rintro e w2 ⟨he, hb2⟩
    rw [Hpos.out] at he
    subst he
    go_wp2
    go_ret
    rw [Hlk.out]
    have hrem : Mo.remove k s = s := by simp only [Mo.remove, Hrm.out]
    rw [hrem]
    refine ⟨rfl, ⟨vk, vi, vs, H1.out.below hb2, fun b h => .inl h, fun b h => .inl h⟩, (Fr.below HbW.out _).trans (Fr.below hb2 _)⟩
  · obtain ⟨hrm, hi, im, hget, hlk⟩ := eraseIdx_rm k s.l hnd i hpos
    have Hpos := Lib.hid hpos
    have Hlk := Lib.hid hlk
    have Hrm := Lib.hid hrm
    clear h h1 hbW hW hl hks hpos hlk hrm hget
    unfold kv
    go_enter Try.func31, Try.ntmps31
    go_wp2_with fail
    rw [← HW.out]
    refine (rmade_is p true _ cm).mono ?_
    rintro e w1 ⟨rfl, rfl⟩
    obtain ⟨k0, k1, k2, k3, k4, _⟩ := blk5 hkb
    go_wp2_with fail
    refine (place_any _ _ vk vi _ (s.l.map (·.1)) k H1.out.blk Hks.out (by simp; omega)).mono ?_
    rintro e w2 ⟨he, hb2⟩
    rw [Hpos.out] at he
    subst he
    have h2 := Lib.hid (H1.out.below hb2)
    clear k0 k1 k2 k3 k4 cm hkb
    go_wp2_with fail
    refine (take_at h2.out (Nat.le_trans hB (Nat.le_trans HbW.out.size hb2.size)) hn i hi h2.out.pNot).mono ?_
    rintro e w3 ⟨rfl, vk3, vi3, h3, hb3, hf3⟩
    go_wp2
    go_ret
    rw [Hlk.out]
    have hrem : Mo.remove k s = { s with l := s.l.eraseIdx i } := by simp only [Mo.remove, Hrm.out]
    rw [hrem]
    refine ⟨rfl, ⟨vk3, vi3, _, h3, fun b h => .inr ?_, fun b h => .inr ?_⟩, ((Fr.below HbW.out _).trans (Fr.below hb2 _)).trans hf3⟩
    · exact Nat.le_trans (Nat.le_trans HbW.out.size hb2.size) (hb3 b (.inl h))
    · exact Nat.le_trans (Nat.le_trans HbW.out.size hb2.size) (hb3 b (.inr h))
end Go.Proofs.Ytpdjfcnlbaaogaa
