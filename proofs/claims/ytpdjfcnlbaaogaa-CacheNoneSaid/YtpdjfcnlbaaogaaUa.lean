/- A key and its image put behind the reference's rows: what memory then holds. -/
import Derived.Test.YtpdjfcnlbaaogaaT
import Derived.Test.YtpdjfcnlbaaogaaTk
namespace Go.Proofs.Ytpdjfcnlbaaogaa
open Go.RowKit

theorem RRep.notPix {w : World} {B p : Nat} {s : Mo.Ca} {vk vi : Value} {vs : List Value} (h : RRep w B p s vk vi vs) : ∀ b, foot p [vk.ownBlock, vi.ownBlock] b → NotPix w b := by
  rintro b hb cs fr he
  rcases hb with rfl | hb
  · rw [h.blk] at he; simp at he
  · simp only [List.mem_cons, List.not_mem_nil, or_false] at hb
    rcases hb with hb | hb
    · obtain ⟨cs', hc⟩ := own_typed h.ks b hb.symm
      rw [hc] at he; simp at he
    · obtain ⟨cs', hc⟩ := own_typed h.is b hb.symm
      rw [hc] at he; simp at he

theorem appended {w3 w5 W : World} {B p : Nat} {s3 : Mo.Ca} {vk3 vi3 : Value} {vs : List Value} (h3 : RRep w3 B p s3 vk3 vi3 vs) (k : Mo.Ky) (im : Mo.Im) (a b : Int) (A : Option Addr) (m c : Nat) (hvi : ImIs w5 B (.agg #[.int .i64 a, .int .i64 b, .slice A m c]) im)
    {vk5 vi5 : Value} (hp5 : w5.heap[p]? = some (.cells #[.int .i64 s3.bud, .int .i64 s3.ev, vk3, vi3, .bool true] 50 (0, 0)))
    (hk5 : w5.ownsRow B 29 5 vk5 (s3.l.length + 1) (flatK (s3.l.map (·.1)) ++ kcells k))
    (hi5 : w5.ownsRow B 32 3 vi5 (s3.l.length + 1) (flatI vs ++ [.int .i64 a, .int .i64 b, .slice A m c]))
    (hf5 : Fr w3 w5 (foot p [vk3.ownBlock, vi3.ownBlock])) (hW : W = (w5.setCell ⟨p, 2, none⟩ vk5).setCell ⟨p, 3, none⟩ vi5) :
    RRep W B p { s3 with l := s3.l ++ [(k, im)] } vk5 vi5 (vs ++ [.agg #[.int .i64 a, .int .i64 b, .slice A m c]]) ∧ Fr w3 W (foot p [vk3.ownBlock, vi3.ownBlock]) ∧ (∀ i v, ImIs w3 B v i → ImIs W B v i) ∧ (∀ x, x ≠ p → W.heap[x]? = w5.heap[x]?) ∧ W.heap.size = w5.heap.size := by
  have hb2 := blk_set hp5 2 vk5
  have hb3 := blk_set hb2 3 vi5
  have hfr : Fr w5 W (fun b => b = p) := by rw [hW]; exact Fr.setCell (F := fun b => b = p) (a := ⟨p, 3, none⟩) (Fr.setCell (F := fun b => b = p) (a := ⟨p, 2, none⟩) (Fr.refl _ _) (.inl rfl) _) (.inl rfl) _
  have hnp : ∀ b, b = p → NotPix w5 b := by
    rintro b rfl cs fr hc
    rw [hp5] at hc; simp at hc
  have hlen5 : (s3.l ++ [(k, im)]).length = s3.l.length + 1 := by simp
  have himg : ∀ i v, ImIs w3 B v i → ImIs W B v i := fun i v h => (h.frame hf5 h3.notPix).frame hfr hnp
  rw [← hW] at hb3
  have hkp := own_notblock hk5 hp5 (by decide)
  have hip := own_notblock hi5 hp5 (by decide)
  refine ⟨⟨hb3, ?_, ?_, ?_, ?_, h3.hp⟩, ?_, himg, ?_, ?_⟩
  · show W.ownsRow B 29 5 vk5 (s3.l ++ [(k, im)]).length (flatK ((s3.l ++ [(k, im)]).map (·.1)))
    rw [hlen5, List.map_append, flatK_append]
    have : flatK ([(k, im)].map (·.1)) = kcells k := by simp [flatK]
    rw [this]
    exact own_frame hk5 hfr fun b hb e => hkp (e ▸ hb)
  · show W.ownsRow B 32 3 vi5 (s3.l ++ [(k, im)]).length (flatI (vs ++ [.agg #[.int .i64 a, .int .i64 b, .slice A m c]]))
    rw [hlen5, flatI_append]
    have : flatI [.agg #[.int .i64 a, .int .i64 b, .slice A m c]] = [.int .i64 a, .int .i64 b, .slice A m c] := by simp [flatI, icells, Value.cells]
    rw [this]
    exact own_frame hi5 hfr fun b hb e => hip (e ▸ hb)
  · simp [h3.len]
  · intro j v i h1 h2
    have hl3 := h3.len
    by_cases hj : j < vs.length
    · rw [List.getElem?_append_left hj] at h1
      have h2' : (s3.l.map (·.1)).length = s3.l.length := by simp
      simp only [List.map_append] at h2
      rw [List.getElem?_append_left (by simp; omega)] at h2
      exact himg _ _ (h3.im j v i h1 h2)
    · have hj2 := (List.getElem?_eq_some_iff.1 h1).1
      simp at hj2
      have hje : j = vs.length := by omega
      subst hje
      simp at h1
      have h2' : i = im := by
        simp only [List.map_append] at h2
        rw [List.getElem?_append_right (by simp; omega)] at h2
        simp [hl3] at h2
        exact h2.symm
      subst h2' h1
      exact hvi.frame hfr hnp
  · exact hf5.trans (hfr.mono fun b hb => .inl hb)
  · intro x hx
    rw [hW, Below.heap_setCell _ _ _ _ hx, Below.heap_setCell _ _ _ _ hx]
  · rw [hW]; simp [World.setCell]

theorem icells_agg (a b : Int) (A : Option Addr) (m c : Nat) : icells (.agg #[.int .i64 a, .int .i64 b, .slice A m c]) = [.int .i64 a, .int .i64 b, .slice A m c] := by simp [icells, Value.cells]

theorem rget_end {w w3 W5 w6 w7 : World} {B p rb : Nat} {s' : Mo.Ca} {vk vi vk3 vi3 vk5 vi5 v' : Value} {vs : List Value} {im : Mo.Im} {cs : Array Value}
    (hB : B ≤ w.heap.size) (hok : Mo.Ok s') (hst : Stp w w3 (foot p [vk.ownBlock, vi.ownBlock]) (foot p [vk3.ownBlock, vi3.ownBlock]))
    (hr : RRep W5 B p s' vk5 vi5 vs) (hf : Fr w3 W5 (foot p [vk3.ownBlock, vi3.ownBlock])) (hk : ∀ b, vk5.ownBlock = some b → w.heap.size ≤ b) (hi : ∀ b, vi5.ownBlock = some b → w.heap.size ≤ b)
    (hb6 : Below W5.heap.size W5 w6) (him : ImIs w6 W5.heap.size v' im) (hrb : W5.heap[rb]? = some (.cells cs 32 (0, 0))) (hrw : w.heap.size ≤ rb) (hirb : vi5.ownBlock ≠ some rb) (hprb : p ≠ rb)
    (h7 : Fr w6 w7 (fun b => b = rb)) :
    ImIs w7 w.heap.size v' im ∧ ∃ F', RAt w7 B p s' F' ∧ Stp w w7 (foot p [vk.ownBlock, vi.ownBlock]) F' := by
  have hrb6 := blk_in hb6 hrb
  have hnp : ∀ b, b = rb → NotPix w6 b := by
    rintro b rfl cs fr hc
    rw [hrb6] at hc; simp at hc
  have f5 : Fr w W5 (foot p [vk.ownBlock, vi.ownBlock]) := (Stp.trans hst ⟨hf, fun _ h => .inl h⟩).1
  have f6 : Fr w w6 (foot p [vk.ownBlock, vi.ownBlock]) := f5.trans (Fr.below hb6 _)
  have f7 : Fr w w7 (foot p [vk.ownBlock, vi.ownBlock]) :=
    (Stp.trans (F1 := fun b => foot p [vk.ownBlock, vi.ownBlock] b ∨ b = rb) (F2 := Nof) ⟨f6, by rintro b (h | rfl); exact .inl h; exact .inr hrw⟩ ⟨h7.mono fun _ h => .inr h, fun _ h => h.elim⟩).1
  have hr6 := hr.below hb6
  refine ⟨?_, foot p [vk5.ownBlock, vi5.ownBlock], ?_, f7, ?_⟩
  · have : ImIs w6 w.heap.size v' im := by
      obtain ⟨vp, rfl, ho⟩ := him
      exact ⟨vp, rfl, own_lower ho f5.size⟩
    exact this.frame h7 hnp
  · have h6 : RAt w6 B p s' (foot p [vk5.ownBlock, vi5.ownBlock]) := ⟨hok, Nat.le_trans hB f6.size, vk5, vi5, vs, hr6, rfl⟩
    refine h6.frame h7 ?_ hnp
    rintro b hb rfl
    rcases hb with h | h
    · exact hprb h.symm
    · simp only [List.mem_cons, List.not_mem_nil, or_false] at h
      rcases h with h | h
      · exact own_notblock hr6.ks hrb6 (by decide) h.symm
      · exact hirb h.symm
  · rintro b (h | h)
    · exact .inl (.inl h)
    · simp only [List.mem_cons, List.not_mem_nil, or_false] at h
      rcases h with h | h
      · exact .inr (hk b h.symm)
      · exact .inr (hi b h.symm)
end Go.Proofs.Ytpdjfcnlbaaogaa
