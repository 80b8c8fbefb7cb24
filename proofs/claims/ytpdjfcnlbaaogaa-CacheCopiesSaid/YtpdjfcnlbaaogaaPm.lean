/- The model keeps its promises: what holds of a cache that is made holds behind every operation. -/
import Derived.Test.YtpdjfcnlbaaogaaPl
namespace Go.Proofs.Ytpdjfcnlbaaogaa
open Go.RowKit

theorem rm_lt {k : Mo.Ky} {i : Mo.Im} {l : List (Mo.Ky × Mo.Im)} (h : Mo.look k l = some i) : (Mo.rm k l).length < l.length := by
  have hk : k ∈ l.map (·.1) := by
    by_cases hk : k ∈ l.map (·.1)
    · exact hk
    · rw [(look_none_iff k l).2 hk] at h; simp at h
  obtain ⟨p, hp, hpk⟩ := List.mem_map.1 hk
  exact List.length_filter_lt_length_iff_exists.2 ⟨p, hp, by simp [hpk]⟩
theorem rm_le (k : Mo.Ky) (l : List (Mo.Ky × Mo.Im)) : (Mo.rm k l).length ≤ l.length := List.length_filter_le _ _
theorem rm_nodup {k : Mo.Ky} {l : List (Mo.Ky × Mo.Im)} (h : (l.map (·.1)).Nodup) (i : Mo.Im) : ((Mo.rm k l ++ [(k, i)]).map (·.1)).Nodup := by
  rw [List.map_append, keys_rm, List.nodup_append]
  refine ⟨h.filter _, by simp, fun a ha b hb => ?_⟩
  simp only [List.map_cons, List.map_nil, List.mem_singleton] at hb
  subst hb
  simp only [List.mem_filter] at ha
  simpa using ha.2
theorem look_use (k q : Mo.Ky) (i : Mo.Im) (l : List (Mo.Ky × Mo.Im)) : Mo.look q (Mo.rm k l ++ [(k, i)]) = if q = k then some i else Mo.look q l := by
  rw [look_append, look_rm, look_cons, look_nil]
  by_cases h : q = k <;> simp [h]

theorem ok_new (n : Int) : Mo.Ok (Mo.new n) := ⟨by simp [Mo.new, Mo.lim]; omega, by simp [Mo.new, Mo.lim]; omega, by simp [Mo.new, Mo.lim]; omega, by simp [Mo.new]⟩
theorem ok_remove {s : Mo.Ca} (h : Mo.Ok s) (k : Mo.Ky) : Mo.Ok (Mo.remove k s) := by
  refine ⟨h.b0, h.b1, ?_, ?_⟩
  · have := rm_le k s.l
    have h2 := h.len
    simp only [Mo.remove]
    omega
  · simp only [Mo.remove]
    rw [keys_rm]
    exact h.nd.filter _
theorem ok_use {s : Mo.Ca} (h : Mo.Ok s) {k : Mo.Ky} {i : Mo.Im} (hk : Mo.look k s.l = some i) : Mo.Ok (Mo.use k i s) := by
  refine ⟨h.b0, h.b1, ?_, rm_nodup h.nd i⟩
  have := rm_lt hk
  have h2 := h.len
  simp only [Mo.use, List.length_append, List.length_cons, List.length_nil]
  omega
theorem ok_get {s : Mo.Ca} (h : Mo.Ok s) (k : Mo.Ky) : Mo.Ok (Mo.get k s) := by
  unfold Mo.get
  cases hk : Mo.look k s.l with
  | none => exact h
  | some i => exact ok_use h hk
theorem ok_shrink {s : Mo.Ca} (h0 : 0 ≤ s.bud) (h1 : s.bud ≤ 1024) (hn : (s.l.map (·.1)).Nodup) : Mo.Ok (Mo.shrink s) := by
  refine ⟨h0, h1, ?_, ?_⟩
  · simp only [Mo.shrink, List.length_drop, Mo.over]; omega
  · simp only [Mo.shrink, List.map_drop]; exact hn.sublist (List.drop_sublist _ _)
theorem ok_put {s : Mo.Ca} (h : Mo.Ok s) (k : Mo.Ky) (i : Mo.Im) : Mo.Ok (Mo.put k i s) := by
  unfold Mo.put
  split
  · exact h
  · exact ok_shrink h.b0 h.b1 (rm_nodup h.nd i)
theorem ok_resize {s : Mo.Ca} (h : Mo.Ok s) (n : Int) : Mo.Ok (Mo.resize n s) :=
  ok_shrink (by simp [Mo.lim]; omega) (by simp [Mo.lim]; omega) h.nd
theorem ok_drop {s : Mo.Ca} (h : Mo.Ok s) (n : Int) : Mo.Ok (Mo.drop n s) := by
  refine ⟨h.b0, h.b1, ?_, ?_⟩
  · have := List.length_filter_le (fun p : Mo.Ky × Mo.Im => !(p.1.node == n)) s.l
    have h2 := h.len
    simp only [Mo.drop]
    omega
  · simp only [Mo.drop]
    exact h.nd.sublist (List.filter_sublist.map _)
end Go.Proofs.Ytpdjfcnlbaaogaa
