/- Two images compared. -/
import Derived.Test.YtpdjfcnlbaaogaaV
namespace Go.Proofs.Ytpdjfcnlbaaogaa
open Go.RowKit

theorem same_im {w : World} {va vb : Value} (ia ib : Mo.Im) (ha : InIm w va ia) (hb : InIm w vb ib) :
    Calls Try.prog 20 #[va, vb] w fun e w' => e = .returned (.bool (decide (ia = ib))) ∧ Below w.heap.size w w' := by
  have he := neq63
  obtain ⟨Aa, na, ca, rfl, hpa⟩ := ha
  obtain ⟨Ab, nb, cb, rfl, hpb⟩ := hb
  have hla := hpa.len
  have hlb := hpb.len
  have hroom := hpa.room
  obtain ⟨W, hW⟩ : ∃ W, W = (w.alloc (.cells #[.int .i64 ia.w, .int .i64 ia.h, .slice Aa na ca] 32)).alloc (.cells #[.int .i64 ib.w, .int .i64 ib.h, .slice Ab nb cb] 32) := ⟨_, rfl⟩
  have hbW : Below w.heap.size w W := by rw [hW]; exact (Below.alloc (Below.refl _ _) (Nat.le_refl _) _).alloc (by simp) _
  have hiW : W.heap[w.heap.size]? = some (.cells #[.int .i64 ia.w, .int .i64 ia.h, .slice Aa na ca] 32 (0, 0)) := by rw [hW]; exact blk_alloc _ (blk_new w _)
  have hjW : W.heap[w.heap.size + 1]? = some (.cells #[.int .i64 ib.w, .int .i64 ib.h, .slice Ab nb cb] 32 (0, 0)) := by rw [hW]; exact blk_at _ _ _ (by simp)
  have HW := Lib.hid hW
  have HbW := Lib.hid hbW
  have HiW := Lib.hid hiW
  have HjW := Lib.hid hjW
  have Hpa := Lib.hid hpa
  have Hpb := Lib.hid hpb
  clear hW hbW hiW hjW hpa hpb
  go_enter Try.func20, Try.ntmps20
  go_wp2_with fail
  · have hk : decide (ia = ib) = false := decide_eq_false fun h => by
      have hf : ((na : Int) != (nb : Int)) = true := by assumption
      subst h
      have : na = nb := by omega
      subst this
      simp at hf
    go_ret
    exact ⟨by rw [hk]; rfl, (Below.alloc (Below.refl _ _) (Nat.le_refl _) _).alloc (by simp) _⟩
  · have hl : na = nb := by
      have hf : ((na : Int) != (nb : Int)) = false := by assumption
      simp at hf
      omega
    have hw : ia.w = ib.w := by assumption
    have hh : ia.h = ib.h := by assumption
    subst hl
    have hW2 : W = (w.alloc (.cells #[.int .i64 ib.w, .int .i64 ib.h, .slice Aa na ca] 32)).alloc (.cells #[.int .i64 ib.w, .int .i64 ib.h, .slice Ab na cb] 32) := by rw [HW.out, hw, hh]
    have Hwh := Lib.hid (And.intro hw hh)
    clear hw hh
    rw [← hW2]
    clear hW2
    go_loopw [5] (fun v wr => ∃ j : Nat, j ≤ na ∧ v = .int .i64 j ∧ Agree ia.pix ib.pix j ∧ Below W.heap.size W wr) (fun v _ => na - (intOf v).toNat)
    case atStart => exact ⟨0, Nat.zero_le _, rfl, fun i hi => by omega, Below.refl _ _⟩
    case round =>
      obtain ⟨j, hj, rfl, hag, hb⟩ := hrel
      have hbw : Below w.heap.size w wr := HbW.out.trans (hb.mono HbW.out.size)
      obtain ⟨c0, c1, c2, _⟩ := blk3 (blk_in hb HiW.out)
      obtain ⟨d0, d1, d2, _⟩ := blk3 (blk_in hb HjW.out)
      have Hag := Lib.hid hag
      have Hb := Lib.hid hb
      have Hbw := Lib.hid hbw
      clear hag hb hbw
      by_cases hlt : j < na
      · have hja : j < ia.pix.length := by omega
        have hjb : j < ib.pix.length := by omega
        obtain ⟨ga, rfl⟩ : ∃ g, Aa = some g := by
          cases Aa with
          | none => have := Hpa.out.none0 rfl; omega
          | some g => exact ⟨g, rfl⟩
        obtain ⟨gb, rfl⟩ : ∃ g, Ab = some g := by
          cases Ab with
          | none => have := Hpb.out.none0 rfl; omega
          | some g => exact ⟨g, rfl⟩
        obtain ⟨q0, q1, q2, q3⟩ := (Hpa.out.below Hbw.out).px j hja
        obtain ⟨r0, r1, r2, r3⟩ := (Hpb.out.below Hbw.out).px j hjb
        rw [add_next _ _ _ (by omega)] at q1 q2 q3 r1 r2 r3
        go_wp2_with fail
        go_region
        go_wp2
        · have hf : ¬ ia.pix[j] = ib.pix[j] := by simpa using ‹(!decide (ia.pix[j] = ib.pix[j])) = true›
          go_ret
          have hk : decide (ia = ib) = false := decide_eq_false fun h => by subst h; exact hf rfl
          exact ⟨by rw [hk]; rfl, Hbw.out.drew⟩
        · have hf : ia.pix[j] = ib.pix[j] := by simpa using ‹(!decide (ia.pix[j] = ib.pix[j])) = false›
          have hn := Hag.out.next hja hjb hf
          have Hn := Lib.hid hn
          clear hn hf
          go_roundw
          case rel => exact ⟨j + 1, by omega, by go_num, Hn.out, Hb.out.drew⟩
          case measure => simp [intOf]; omega
      · have hp : j = ia.pix.length := by omega
        have hq : ia.pix = ib.pix := (hp ▸ Hag.out).all (by omega)
        have hk : decide (ia = ib) = true := decide_eq_true (by
          obtain ⟨a, b, c⟩ := ia
          obtain ⟨a', b', c'⟩ := ib
          have := Hwh.out
          simp_all)
        have Hk := Lib.hid hk
        clear hk hq
        go_wp2
        go_ret
        exact ⟨by rw [Hk.out]; rfl, Hbw.out⟩
  all_goals
    have hk : decide (ia = ib) = false := decide_eq_false fun h => by subst h; contradiction
    go_ret
    exact ⟨by rw [hk]; rfl, (Below.alloc (Below.refl _ _) (Nat.le_refl _) _).alloc (by simp) _⟩
end Go.Proofs.Ytpdjfcnlbaaogaa
