/- The reference's place and take. -/
import Derived.Test.YtpdjfcnlbaaogaaN
namespace Go.Proofs.Ytpdjfcnlbaaogaa
open Go.RowKit

theorem place_any {w : World} {B p : Nat} (b0 b1 vk vi b4 : Value) (ks : List Mo.Ky) (k : Mo.Ky) (hp : w.heap[p]? = some (.cells #[b0, b1, vk, vi, b4] 50 (0, 0))) (ho : w.ownsRow B 29 5 vk ks.length (flatK ks)) (hn : ks.length ≤ 4096) :
    Calls Try.prog 41 #[.pointer (some ⟨p, 0, none⟩), kv k] w fun e w' => e = .returned (.int .i64 (posn k ks)) ∧ Below w.heap.size w w' := by
  have hal : ∀ o, Below w.heap.size w (w.alloc o) := fun o => Below.alloc (Below.refl _ _) (Nat.le_refl _) o
  have he := eql29
  obtain ⟨A', c', rfl⟩ := own_slice ho
  have hA : 0 < ks.length → ∃ g, A' = some ⟨g, 0, none⟩ := by
    intro hpos
    rcases ho.2 with ⟨h, h1⟩ | ⟨g, cap, cur, he, _⟩
    · omega
    · simp at he; exact ⟨g, he.1⟩
  have HA := Lib.hid hA
  have Hp := Lib.hid hp
  have Ho := Lib.hid ho
  have hlt := (Array.getElem?_eq_some_iff.1 hp).1
  clear hA hp ho
  unfold kv
  go_enter Try.func41, Try.ntmps41
  go_wp2_with fail
  obtain ⟨W, hW⟩ : ∃ W, W = (w.alloc (.cells #[.int .i64 k.node, .int .i64 k.stamp, .int .i64 k.level, .int .i64 k.x, .int .i64 k.y] 29)) := ⟨_, rfl⟩
  rw [← hW]
  have hbW : Below w.heap.size w W := by rw [hW]; exact hal _
  have hkW : W.heap[w.heap.size]? = some (.cells #[.int .i64 k.node, .int .i64 k.stamp, .int .i64 k.level, .int .i64 k.x, .int .i64 k.y] 29 (0, 0)) := by rw [hW]; exact blk_new w _
  have HbW := Lib.hid hbW
  have HkW := Lib.hid hkW
  clear hW hbW hkW
  go_loopw [5] (fun v wr => ∃ j : Nat, j ≤ ks.length ∧ v = .int .i64 j ∧ Before k ks j ∧ Below W.heap.size W wr) (fun v _ => ks.length - (intOf v).toNat)
  case atStart => exact ⟨0, Nat.zero_le _, rfl, Before.zero _ _, Below.refl _ _⟩
  case round =>
    obtain ⟨j, hj, rfl, hbf, hb⟩ := hrel
    have hbw : Below w.heap.size w wr := HbW.out.trans (hb.mono HbW.out.size)
    obtain ⟨_, _, c2, _⟩ := blk5 (blk_in hbw Hp.out)
    obtain ⟨k0, k1, k2, k3, k4, _⟩ := blk5 (blk_in hb HkW.out)
    have Hbf := Lib.hid hbf
    have Hb := Lib.hid hb
    have Hbw := Lib.hid hbw
    clear hbf hb hbw
    by_cases hlt : j < ks.length
    · obtain ⟨g, rfl⟩ := HA.out (by omega)
      obtain ⟨q0, q1, q2, q3, q4⟩ := own_key (own_below Ho.out Hbw.out) j hlt
      go_wp2_with fail
      go_region
      go_wp2
      · have he : ks[j] = k := by assumption
        have hp := posn_here Hbf.out hlt (by simpa using he)
        go_ret
        exact ⟨by rw [hp]; rfl, Hbw.out.drew⟩
      · have he : ¬ ks[j] = k := by assumption
        have hn := Hbf.out.next hlt (by simpa using he)
        go_roundw
        case rel => exact ⟨j + 1, by omega, by go_num, hn, Hb.out.drew⟩
        case measure => simp [intOf]; omega
    · have hp : j = ks.length := by omega
      have hq : posn k ks = -1 := posn_none (hp ▸ Hbf.out)
      go_wp2
      go_ret
      exact ⟨by rw [hq]; rfl, Hbw.out⟩

theorem eraseIdx_take {α : Type} (l : List α) (i j : Nat) (h : j < l.length) : (l.take (j + 1)).eraseIdx i = if j = i then (l.take j).eraseIdx i else (l.take j).eraseIdx i ++ [l[j]] := by
  rw [List.take_succ_eq_append_getElem h]
  have hl : (l.take j).length = j := by rw [List.length_take]; omega
  generalize l.take j = t at hl ⊢
  by_cases hji : j = i
  · subst hji
    rw [if_pos rfl, List.eraseIdx_append_of_length_le (by omega), List.eraseIdx_of_length_le (l := t) (by omega)]
    simp [hl]
  · rw [if_neg hji]
    rcases Nat.lt_or_ge i j with h1 | h1
    · rw [List.eraseIdx_append_of_lt_length (by omega)]
    · rw [List.eraseIdx_of_length_le (l := t) (by omega), List.eraseIdx_of_length_le]
      rw [List.length_append, List.length_singleton]; omega

/-- The cells of the j-th image of a row. -/
structure Im3 (v : Value) : Prop where
  form : ∃ a b A n c, v = .agg #[.int .i64 a, .int .i64 b, .slice A n c]

def flatI (vs : List Value) : List Value := vs.flatMap icells
theorem flatI_append (a b : List Value) : flatI (a ++ b) = flatI a ++ flatI b := by simp [flatI]
theorem flatI_length (l : List Value) (h : ∀ v ∈ l, Im3 v) : (flatI l).length = l.length * 3 := by
  induction l with
  | nil => rfl
  | cons a r ih =>
    obtain ⟨⟨x, y, A, n, c, hv⟩⟩ := h a (List.mem_cons_self ..)
    have := ih fun v hv => h v (List.mem_cons_of_mem _ hv)
    have hc : flatI (a :: r) = icells a ++ flatI r := rfl
    rw [hc, List.length_append, this, hv]
    simp [icells, Value.cells]; omega
theorem flatI_at (l : List Value) (hf : ∀ v ∈ l, Im3 v) (j : Nat) (h : j < l.length) (a b : Int) (A : Option Addr) (n c : Nat) (hv : l[j] = .agg #[.int .i64 a, .int .i64 b, .slice A n c]) :
    (flatI l)[j * 3]? = some (.int .i64 a) ∧ (flatI l)[j * 3 + 1]? = some (.int .i64 b) ∧ (flatI l)[j * 3 + 2]? = some (.slice A n c) := by
  induction l generalizing j with
  | nil => simp at h
  | cons q r ih =>
    have hc : flatI (q :: r) = icells q ++ flatI r := rfl
    obtain ⟨⟨x, y, A', n', c', hq⟩⟩ := hf q (List.mem_cons_self ..)
    have hi : icells q = [.int .i64 x, .int .i64 y, .slice A' n' c'] := by rw [hq]; rfl
    cases j with
    | zero =>
      simp only [List.getElem_cons_zero] at hv
      rw [hc, hv]
      simp [icells, Value.cells]
    | succ j =>
      obtain ⟨h0, h1, h2⟩ := ih (fun v hv => hf v (List.mem_cons_of_mem _ hv)) j (by simpa using h) (by simpa using hv)
      have e : ∀ m, (flatI (q :: r))[(j + 1) * 3 + m]? = (flatI r)[j * 3 + m]? := by
        intro m
        rw [hc, hi, List.getElem?_append_right (by simp; omega)]
        congr 1
        simp; omega
      exact ⟨(e 0).trans h0, (e 1).trans h1, (e 2).trans h2⟩

theorem own_im {w : World} {B g n cap : Nat} {vs : List Value} (h : w.ownsRow B 32 3 (.slice (some ⟨g, 0, none⟩) n cap) n (flatI vs)) (hf : ∀ v ∈ vs, Im3 v) (j : Nat) (hj : j < vs.length) (a b : Int) (A : Option Addr) (m c : Nat) (hv : vs[j] = .agg #[.int .i64 a, .int .i64 b, .slice A m c]) :
    w.cell? ⟨g, j * 3, none⟩ = some (.int .i64 a) ∧ w.cell? ⟨g, j * 3 + 1, none⟩ = some (.int .i64 b) ∧ w.cell? ⟨g, j * 3 + 2, none⟩ = some (.slice A m c) := by
  obtain ⟨h0, h1, h2⟩ := flatI_at vs hf j hj a b A m c hv
  have hc := h.cells (g := g) rfl
  exact ⟨addG g _ ▸ hc _ _ h0, addG g _ ▸ hc _ _ h1, addG g _ ▸ hc _ _ h2⟩
end Go.Proofs.Ytpdjfcnlbaaogaa
