/- Two lists of keys compared; two images compared. -/
import Derived.Test.YtpdjfcnlbaaogaaT
namespace Go.Proofs.Ytpdjfcnlbaaogaa
open Go.RowKit

/-- The first j places agree. -/
def Agree {α : Type} (a b : List α) (j : Nat) : Prop := ∀ i, i < j → a[i]? = b[i]?
theorem Agree.next {α : Type} {a b : List α} {j : Nat} (h : Agree a b j) (ha : j < a.length) (hb : j < b.length) (he : a[j] = b[j]) : Agree a b (j + 1) := by
  intro i hi
  rcases Nat.lt_or_ge i j with h1 | h1
  · exact h i h1
  · obtain rfl : i = j := by omega
    simp [ha, hb, he]
theorem Agree.all {α : Type} {a b : List α} (h : Agree a b a.length) (hl : a.length = b.length) : a = b := by
  apply List.ext_getElem? ; intro i
  rcases Nat.lt_or_ge i a.length with h1 | h1
  · exact h i h1
  · rw [List.getElem?_eq_none h1, List.getElem?_eq_none (by omega)]

theorem neq29 (w : World) (a b : Mo.Ky) : (binOp .neq 29 (.agg #[.int .i64 a.node, .int .i64 a.stamp, .int .i64 a.level, .int .i64 a.x, .int .i64 a.y]) (.agg #[.int .i64 b.node, .int .i64 b.stamp, .int .i64 b.level, .int .i64 b.x, .int .i64 b.y])).run Try.prog w = .ok (.bool (!decide (a = b))) w := by
  have hu := Try.underlying29
  have h3 := Try.underlying3
  obtain ⟨a1, a2, a3, a4, a5⟩ := a
  obtain ⟨b1, b2, b3, b4, b5⟩ := b
  simp only [binOp, Op.equal, Op.maxDepth]
  go_simp
  by_cases e1 : a1 = b1 <;> by_cases e2 : a2 = b2 <;> by_cases e3 : a3 = b3 <;> by_cases e4 : a4 = b4 <;> by_cases e5 : a5 = b5 <;> simp [e1, e2, e3, e4, e5]

theorem neq63 (w : World) (a b : Mo.Px) : (binOp .neq 63 (.agg #[.int .i64 a.r, .int .i64 a.g, .int .i64 a.b, .int .i64 a.a]) (.agg #[.int .i64 b.r, .int .i64 b.g, .int .i64 b.b, .int .i64 b.a])).run Try.prog w = .ok (.bool (!decide (a = b))) w := by
  have hu := Try.underlying63
  have h3 := Try.underlying3
  obtain ⟨a1, a2, a3, a4⟩ := a
  obtain ⟨b1, b2, b3, b4⟩ := b
  simp only [binOp, Op.equal, Op.maxDepth]
  go_simp
  by_cases e1 : a1 = b1 <;> by_cases e2 : a2 = b2 <;> by_cases e3 : a3 = b3 <;> by_cases e4 : a4 = b4 <;> simp [e1, e2, e3, e4]

theorem same_keys {w : World} {B1 B2 : Nat} {va vb : Value} (ka kb : List Mo.Ky) (ha : w.ownsRow B1 29 5 va ka.length (flatK ka)) (hb : w.ownsRow B2 29 5 vb kb.length (flatK kb)) (hn : ka.length ≤ 4096) :
    Calls Try.prog 12 #[va, vb] w fun e w' => e = .returned (.bool (decide (ka = kb))) ∧ Below w.heap.size w w' := by
  have he := neq29
  obtain ⟨Aa, ca, rfl⟩ := own_slice ha
  obtain ⟨Ab, cb, rfl⟩ := own_slice hb
  have hA : 0 < ka.length → ∃ g, Aa = some ⟨g, 0, none⟩ := by
    intro hpos
    rcases ha.2 with ⟨h, h1⟩ | ⟨g, cap, cur, he, _⟩
    · omega
    · simp at he; exact ⟨g, he.1⟩
  have hB : 0 < kb.length → ∃ g, Ab = some ⟨g, 0, none⟩ := by
    intro hpos
    rcases hb.2 with ⟨h, h1⟩ | ⟨g, cap, cur, he, _⟩
    · omega
    · simp at he; exact ⟨g, he.1⟩
  have HA := Lib.hid hA
  have HB := Lib.hid hB
  have Ha := Lib.hid ha
  have Hb := Lib.hid hb
  clear hA hB ha hb
  go_enter Try.func12, Try.ntmps12
  by_cases hl : ka.length = kb.length
  · have hl' : (ka.length : Int) = (kb.length : Int) := by omega
    have Hl := Lib.hid hl
    clear hl
    go_wp2
    go_loopw [5] (fun v wr => ∃ j : Nat, j ≤ ka.length ∧ v = .int .i64 j ∧ Agree ka kb j ∧ Below w.heap.size w wr) (fun v _ => ka.length - (intOf v).toNat)
    case atStart => exact ⟨0, Nat.zero_le _, rfl, fun i hi => by omega, Below.refl _ _⟩
    case round =>
      obtain ⟨j, hj, rfl, hag, hbw⟩ := hrel
      have Hag := Lib.hid hag
      have Hbw := Lib.hid hbw
      clear hag hbw
      by_cases hlt : j < ka.length
      · have hlb : j < kb.length := by have := Hl.out; omega
        obtain ⟨g, rfl⟩ := HA.out (by omega)
        obtain ⟨g', rfl⟩ := HB.out (by omega)
        obtain ⟨q0, q1, q2, q3, q4⟩ := own_key (own_below Ha.out Hbw.out) j hlt
        obtain ⟨r0, r1, r2, r3, r4⟩ := own_key (own_below Hb.out Hbw.out) j hlb
        go_wp2_with fail
        go_region
        go_wp2
        · have hf : ¬ ka[j] = kb[j] := by simpa using ‹(!decide (ka[j] = kb[j])) = true›
          go_ret
          have hk : decide (ka = kb) = false := decide_eq_false fun h => by subst h; exact hf rfl
          exact ⟨by rw [hk]; rfl, Hbw.out.drew⟩
        · have hf : ka[j] = kb[j] := by simpa using ‹(!decide (ka[j] = kb[j])) = false›
          have hn := Hag.out.next hlt hlb hf
          have Hn := Lib.hid hn
          clear hn hf
          go_roundw
          case rel => exact ⟨j + 1, by omega, by go_num, Hn.out, Hbw.out.drew⟩
          case measure => simp [intOf]; omega
      · have hp : j = ka.length := by omega
        have hq : ka = kb := (hp ▸ Hag.out).all Hl.out
        have Hq := Lib.hid hq
        clear hq
        go_wp2
        go_ret
        exact ⟨by simp [Hq.out], Hbw.out⟩
  · have hl' : ¬ (ka.length : Int) = (kb.length : Int) := by omega
    go_wp2
    go_ret
    have hk : decide (ka = kb) = false := decide_eq_false fun h => by subst h; exact hl rfl
    exact ⟨by rw [hk]; rfl, Below.refl _ _⟩
theorem PixIn.px {w : World} {A : Addr} {n : Nat} {xs : List Mo.Px} (h : PixIn w (some A) n xs) (j : Nat) (hj : j < xs.length) :
    w.cell? (A.add (j * 4)) = some (.int .i64 xs[j].r) ∧ w.cell? (A.add (j * 4 + 1)) = some (.int .i64 xs[j].g) ∧ w.cell? (A.add (j * 4 + 2)) = some (.int .i64 xs[j].b) ∧ w.cell? (A.add (j * 4 + 3)) = some (.int .i64 xs[j].a) := by
  obtain ⟨h0, h1, h2, h3⟩ := flatP_at xs j hj
  exact ⟨h.cell A rfl _ _ h0, h.cell A rfl _ _ h1, h.cell A rfl _ _ h2, h.cell A rfl _ _ h3⟩

end Go.Proofs.Ytpdjfcnlbaaogaa
