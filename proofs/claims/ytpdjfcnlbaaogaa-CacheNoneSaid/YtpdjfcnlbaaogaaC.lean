/- The search for a key in a row of keys (slices.IndexFunc with the cache's closure), and its removal (slices.Delete). -/
import Derived.Test.YtpdjfcnlbaaogaaB
import Derived.Deep.LoopGhost
namespace Go.Proofs.Ytpdjfcnlbaaogaa
open Go.RowKit

theorem eql29 (w : World) (a b : Mo.Ky) : (binOp .eql 29 (.agg #[.int .i64 a.node, .int .i64 a.stamp, .int .i64 a.level, .int .i64 a.x, .int .i64 a.y]) (.agg #[.int .i64 b.node, .int .i64 b.stamp, .int .i64 b.level, .int .i64 b.x, .int .i64 b.y])).run Try.prog w = .ok (.bool (decide (a = b))) w := by
  have h := equal29 w a b
  simp only [kv] at h
  simp [binOp, h]

theorem clos_any (k q : Mo.Ky) (kb : Nat) (w : World) (hk : w.heap[kb]? = some (.cells (kcells k).toArray 29 (0, 0))) :
    Calls Try.prog 49 #[kv q, .pointer (some ⟨kb, 0, none⟩)] w fun e w' => e = .returned (.bool (decide (q = k))) ∧ Below w.heap.size w w' := by
  obtain ⟨c0, c1, c2, c3, c4, f0, f1, f2, f3, f4⟩ := blk5 hk
  have hlt := World.block_lt_of_cell? w _ c0
  have he := eql29
  unfold kv
  go_enter Try.func49, Try.ntmps49
  go_wp2
  go_ret
  exact ⟨rfl, Below.alloc (Below.refl _ _) (Nat.le_refl _) _⟩

theorem flatK_at (l : List Mo.Ky) (j : Nat) (h : j < l.length) : (flatK l)[j * 5]? = some (.int .i64 l[j].node) ∧ (flatK l)[j * 5 + 1]? = some (.int .i64 l[j].stamp) ∧ (flatK l)[j * 5 + 2]? = some (.int .i64 l[j].level) ∧ (flatK l)[j * 5 + 3]? = some (.int .i64 l[j].x) ∧ (flatK l)[j * 5 + 4]? = some (.int .i64 l[j].y) := by
  induction l generalizing j with
  | nil => simp at h
  | cons a r ih =>
    have hc : flatK (a :: r) = [.int .i64 a.node, .int .i64 a.stamp, .int .i64 a.level, .int .i64 a.x, .int .i64 a.y] ++ flatK r := rfl
    cases j with
    | zero => simp [hc]
    | succ j =>
      obtain ⟨h0, h1, h2, h3, h4⟩ := ih j (by simpa using h)
      have e : ∀ m, (flatK (a :: r))[(j + 1) * 5 + m]? = (flatK r)[j * 5 + m]? := by
        intro m
        rw [hc, List.getElem?_append_right (by simp; omega)]
        congr 1
        simp; omega
      simp only [List.getElem_cons_succ]
      exact ⟨(e 0).trans h0, (e 1).trans h1, (e 2).trans h2, (e 3).trans h3, (e 4).trans h4⟩

theorem addG (g j : Nat) : (⟨g, 0, none⟩ : Addr).add j = ⟨g, j, none⟩ := by unfold Addr.add; split <;> simp_all

/-- The cells of the j-th key of an own row. -/
theorem own_key {w : World} {B g n cap : Nat} {ks : List Mo.Ky} (h : w.ownsRow B 29 5 (.slice (some ⟨g, 0, none⟩) n cap) n (flatK ks)) (j : Nat) (hj : j < ks.length) :
    w.cell? ⟨g, j * 5, none⟩ = some (.int .i64 ks[j].node) ∧ w.cell? ⟨g, j * 5 + 1, none⟩ = some (.int .i64 ks[j].stamp) ∧ w.cell? ⟨g, j * 5 + 2, none⟩ = some (.int .i64 ks[j].level) ∧ w.cell? ⟨g, j * 5 + 3, none⟩ = some (.int .i64 ks[j].x) ∧ w.cell? ⟨g, j * 5 + 4, none⟩ = some (.int .i64 ks[j].y) := by
  obtain ⟨h0, h1, h2, h3, h4⟩ := flatK_at ks j hj
  have hc := h.cells (g := g) rfl
  exact ⟨addG g _ ▸ hc _ _ h0, addG g _ ▸ hc _ _ h1, addG g _ ▸ hc _ _ h2, addG g _ ▸ hc _ _ h3, addG g _ ▸ hc _ _ h4⟩

def posn (k : Mo.Ky) (l : List Mo.Ky) : Int := match l.findIdx? (fun q => q == k) with | some i => i | none => -1

def Before (k : Mo.Ky) (ks : List Mo.Ky) (j : Nat) : Prop := ∀ (i : Nat) (h : i < ks.length), i < j → ks[i] ≠ k
theorem Before.zero (k : Mo.Ky) (ks : List Mo.Ky) : Before k ks 0 := fun i _ h => absurd h (Nat.not_lt_zero i)
theorem Before.next {k : Mo.Ky} {ks : List Mo.Ky} {j : Nat} (hb : Before k ks j) (hj : j < ks.length) (hn : decide (ks[j] = k) = false) : Before k ks (j + 1) := by
  intro i h hi
  by_cases e : i = j
  · subst e; simpa using hn
  · exact hb i h (by omega)
theorem posn_here {k : Mo.Ky} {ks : List Mo.Ky} {j : Nat} (hb : Before k ks j) (hj : j < ks.length) (hn : decide (ks[j] = k) = true) : posn k ks = j := by
  have : ks.findIdx? (fun q => q == k) = some j := by
    rw [List.findIdx?_eq_some_iff_getElem]
    refine ⟨hj, by simpa using hn, fun i hi => ?_⟩
    have := hb i (by omega) hi
    simpa using this
  simp [posn, this]
theorem posn_none {k : Mo.Ky} {ks : List Mo.Ky} (hb : Before k ks ks.length) : posn k ks = -1 := by
  have : ks.findIdx? (fun q => q == k) = none := by
    rw [List.findIdx?_eq_none_iff]
    intro x hx
    obtain ⟨i, hi, rfl⟩ := List.getElem_of_mem hx
    have := hb i hi hi
    simpa using this
  simp [posn, this]

theorem own_below {w w1 : World} {B : Nat} {e : TypeId} {size n : Nat} {v : Value} {xs : List Value} (h : w.ownsRow B e size v n xs) (hb : Below w.heap.size w w1) : w1.ownsRow B e size v n xs :=
  own_frame h (Fr.below hb Nof) fun _ _ h => h

theorem index_some (B g n cap : Nat) (ks : List Mo.Ky) (k : Mo.Ky) (kb : Nat) (w : World) (h : w.ownsRow B 29 5 (.slice (some ⟨g, 0, none⟩) n cap) n (flatK ks)) (hl : ks.length = n) (hn : n ≤ 4096)
    (hk : w.heap[kb]? = some (.cells (kcells k).toArray 29 (0, 0))) :
    Calls Try.prog 48 #[.slice (some ⟨g, 0, none⟩) n cap, .func (.func 49) #[] #[.pointer (some ⟨kb, 0, none⟩)]] w fun e w' => e = .returned (.int .i64 (posn k ks)) ∧ Below w.heap.size w w' := by
  subst hl
  go_enter Try.func48, Try.ntmps48
  go_wp2_with fail
  go_loopw [8] (fun v wr => ∃ j : Nat, j ≤ ks.length ∧ v = .int .i64 j ∧ Before k ks j ∧ Below w.heap.size w wr) (fun v _ => ks.length - (intOf v).toNat)
  case atStart => exact ⟨0, Nat.zero_le _, rfl, Before.zero _ _, Below.refl _ _⟩
  case round =>
    obtain ⟨j, hj, rfl, hbf, hb⟩ := hrel
    have Hbf := Lib.hid hbf
    have Hb := Lib.hid hb
    clear hbf hb
    by_cases hlt : j < ks.length
    · obtain ⟨c0, c1, c2, c3, c4⟩ := own_key (own_below h Hb.out) j hlt
      have hk' := blk_in Hb.out hk
      have Hk := Lib.hid hk'
      clear hk'
      go_wp2_with (go_at_call 49; refine (clos_any k ks[j] kb _ Hk.out).mono ?_; rintro e w1 ⟨rfl, hb1⟩)
      · have he : ks[j] = k := by assumption
        have hp := posn_here Hbf.out hlt (by simpa using he)
        go_ret
        exact ⟨by rw [hp]; rfl, Hb.out.trans (hb1.mono Hb.out.size)⟩
      · have he : ¬ ks[j] = k := by assumption
        have hn := Hbf.out.next hlt (by simpa using he)
        have hb2 := Hb.out.trans (hb1.mono Hb.out.size)
        go_roundw
        case rel => exact ⟨j + 1, by omega, by go_num, hn, hb2⟩
        case measure => simp [intOf]; omega
    · have hp : j = ks.length := by omega
      have hq : posn k ks = -1 := posn_none (hp ▸ Hbf.out)
      go_wp2
      go_ret
      exact ⟨by rw [hq]; rfl, Hb.out⟩
end Go.Proofs.Ytpdjfcnlbaaogaa
