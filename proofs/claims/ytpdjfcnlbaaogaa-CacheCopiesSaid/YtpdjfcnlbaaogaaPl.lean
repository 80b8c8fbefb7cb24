/- Plain laws of association lists: look, update, delete, filter, drop. -/
import Derived.Test.YtpdjfcnlbaaogaaMap
namespace Go.Proofs.Ytpdjfcnlbaaogaa
open Go.RowKit

variable {α : Type}

theorem look_nil (k : Mo.Ky) : Mo.look k ([] : List (Mo.Ky × α)) = none := rfl
theorem look_cons (k : Mo.Ky) (p : Mo.Ky × α) (r : List (Mo.Ky × α)) : Mo.look k (p :: r) = if k = p.1 then some p.2 else Mo.look k r := by
  by_cases h : k = p.1
  · simp [Mo.look, h]
  · have : (p.1 == k) = false := by simp [Ne.symm h]
    simp [Mo.look, h, this]
theorem look_append (k : Mo.Ky) (a b : List (Mo.Ky × α)) : Mo.look k (a ++ b) = (Mo.look k a).or (Mo.look k b) := by
  induction a with
  | nil => simp [look_nil]
  | cons p r ih => simp only [List.cons_append, look_cons, ih]; split <;> simp
theorem look_none_iff (k : Mo.Ky) (l : List (Mo.Ky × α)) : Mo.look k l = none ↔ k ∉ l.map (·.1) := by
  induction l with
  | nil => simp [look_nil]
  | cons p r ih =>
    rw [look_cons]
    by_cases h : k = p.1
    · simp [h]
    · simp only [h, if_false, ih, List.map_cons, List.mem_cons, false_or]
theorem look_filter (f : Mo.Ky → Bool) (k : Mo.Ky) (l : List (Mo.Ky × α)) : Mo.look k (l.filter (fun p => f p.1)) = if f k = true then Mo.look k l else none := by
  induction l with
  | nil => simp [look_nil]
  | cons p r ih =>
    rw [List.filter_cons]
    by_cases hf : f p.1 = true
    · simp only [hf, if_true, look_cons, ih]
      by_cases h : k = p.1
      · subst h; simp [hf]
      · simp [h]
    · simp only [hf, if_false, look_cons, ih, Bool.false_eq_true]
      by_cases h : k = p.1
      · subst h; simp [hf]
      · simp [h]
theorem look_rm (q k : Mo.Ky) (l : List (Mo.Ky × Mo.Im)) : Mo.look k (Mo.rm q l) = if k = q then none else Mo.look k l := by
  rw [Mo.rm, look_filter (fun x => !(x == q))]
  by_cases h : k = q <;> simp [h]
theorem look_upd (q k : Mo.Ky) (v : Value) (ms : List (Mo.Ky × Value)) : Mo.look k (upd q v ms) = if k = q then some v else Mo.look k ms := by
  induction ms with
  | nil => simp [upd, look_cons, look_nil]
  | cons p r ih =>
    unfold upd
    by_cases hq : q = p.1
    · subst hq
      rw [if_pos rfl]
      simp only [look_cons]
      by_cases h : k = p.1 <;> simp [h]
    · simp only [hq, if_false, look_cons, ih]
      by_cases h : k = p.1
      · have : ¬ k = q := fun e => hq (e ▸ h)
        simp [h, Ne.symm hq]
      · simp [h]
theorem keys_upd (q : Mo.Ky) (v : Value) (ms : List (Mo.Ky × Value)) : (upd q v ms).map (·.1) = if q ∈ ms.map (·.1) then ms.map (·.1) else ms.map (·.1) ++ [q] := by
  induction ms with
  | nil => simp [upd]
  | cons p r ih =>
    unfold upd
    by_cases hq : q = p.1
    · simp [hq]
    · simp only [hq, if_false, List.map_cons, ih, List.mem_cons, false_or]
      by_cases h : q ∈ r.map (·.1)
      · simp [h]
      · simp [h]
theorem nodup_upd (q : Mo.Ky) (v : Value) (ms : List (Mo.Ky × Value)) (h : (ms.map (·.1)).Nodup) : ((upd q v ms).map (·.1)).Nodup := by
  rw [keys_upd]
  split
  · exact h
  · rename_i hn
    rw [List.nodup_append]
    refine ⟨h, by simp, fun a ha b hb => ?_⟩
    simp only [List.mem_singleton] at hb
    subst hb
    exact fun e => hn (e ▸ ha)
theorem del_sub (q : Mo.Ky) (ms : List (Mo.Ky × Value)) : (del q ms).Sublist ms := by
  induction ms with
  | nil => exact List.Sublist.refl _
  | cons p r ih =>
    unfold del
    split
    · exact List.sublist_cons_self _ _
    · exact ih.cons_cons _
theorem nodup_del (q : Mo.Ky) (ms : List (Mo.Ky × Value)) (h : (ms.map (·.1)).Nodup) : ((del q ms).map (·.1)).Nodup := h.sublist ((del_sub q ms).map _)
theorem look_del (q k : Mo.Ky) (ms : List (Mo.Ky × Value)) (h : (ms.map (·.1)).Nodup) : Mo.look k (del q ms) = if k = q then none else Mo.look k ms := by
  induction ms with
  | nil => simp [del, look_nil]
  | cons p r ih =>
    rw [List.map_cons, List.nodup_cons] at h
    unfold del
    by_cases hq : q = p.1
    · rw [if_pos hq]
      by_cases hk : k = q
      · rw [if_pos hk, look_none_iff, hk, hq]; exact h.1
      · rw [if_neg hk, look_cons, if_neg (by rw [← hq]; exact hk)]
    · rw [if_neg hq, look_cons, look_cons, ih h.2]
      by_cases h1 : k = p.1
      · have : ¬ k = q := fun e => hq (e ▸ h1)
        simp [h1, Ne.symm hq]
      · simp [h1]

def delAll (ks : List Mo.Ky) (ms : List (Mo.Ky × Value)) : List (Mo.Ky × Value) := ks.foldl (fun ms k => del k ms) ms
theorem delAll_snoc (ks : List Mo.Ky) (j : Nat) (h : j < ks.length) (ms : List (Mo.Ky × Value)) : delAll (ks.take (j + 1)) ms = del ks[j] (delAll (ks.take j) ms) := by
  rw [List.take_succ_eq_append_getElem h, delAll, List.foldl_append]; rfl
theorem delAll_spec (ks : List Mo.Ky) : ∀ (ms : List (Mo.Ky × Value)), (ms.map (·.1)).Nodup → ((delAll ks ms).map (·.1)).Nodup ∧ ∀ k, Mo.look k (delAll ks ms) = if k ∈ ks then none else Mo.look k ms := by
  induction ks with
  | nil => intro ms h; exact ⟨h, fun k => by simp [delAll]⟩
  | cons q r ih =>
    intro ms h
    obtain ⟨h1, h2⟩ := ih (del q ms) (nodup_del q ms h)
    refine ⟨h1, fun k => ?_⟩
    have : Mo.look k (delAll (q :: r) ms) = Mo.look k (delAll r (del q ms)) := rfl
    rw [this, h2, look_del q k ms h]
    by_cases h3 : k ∈ r <;> by_cases h4 : k = q <;> simp [h3, h4]
theorem look_drop (n : Nat) (l : List (Mo.Ky × α)) (h : (l.map (·.1)).Nodup) (k : Mo.Ky) : Mo.look k (l.drop n) = if k ∈ (l.map (·.1)).take n then none else Mo.look k l := by
  have h1 : Mo.look k l = (Mo.look k (l.take n)).or (Mo.look k (l.drop n)) := by rw [← look_append, List.take_append_drop]
  rw [← List.map_take]
  by_cases hk : k ∈ (l.take n).map (·.1)
  · rw [if_pos hk, look_none_iff]
    intro hd
    have h2 : (l.map (·.1)) = (l.take n).map (·.1) ++ (l.drop n).map (·.1) := by rw [← List.map_append, List.take_append_drop]
    rw [h2, List.nodup_append] at h
    exact h.2.2 k hk k hd rfl
  · rw [if_neg hk, h1, (look_none_iff k _).2 hk]; simp

theorem keys_rm (q : Mo.Ky) (l : List (Mo.Ky × Mo.Im)) : (Mo.rm q l).map (·.1) = (l.map (·.1)).filter (fun x => !(x == q)) := by
  rw [Mo.rm, List.filter_map]; rfl
end Go.Proofs.Ytpdjfcnlbaaogaa
