/- The law CacheNone walked. -/
import Derived.Test.YtpdjfcnlbaaogaaLr
namespace Go.Proofs.Ytpdjfcnlbaaogaa
open Go.RowKit
set_option linter.unusedSimpArgs false
set_option maxRecDepth 20000

theorem PAt.no {w : World} {B : Nat} {v : Value} (hB : B ≤ w.heap.size) (h : MadeNot w v) : PAt w B v none Nof := ⟨hB, rfl, h⟩
theorem QAt.no {w : World} {B : Nat} {v : Value} (hB : B ≤ w.heap.size) (h : RMadeNot w v) : QAt w B v none Nof := ⟨hB, rfl, h⟩
theorem SmX.no : SmX none := fun s hs => by cases hs
theorem Stp.nof {w w' : World} {F' : Nat → Prop} (st : Stp w w' (fun b => Nof b ∨ Nof b) F') : Below w.heap.size w w' := st.1.toBelow (Nat.le_refl _) fun _ h => h.elim (fun h => h.elim) (fun h => h.elim)

set_option maxHeartbeats 4000000 in
theorem none_walk {W : World} {A : Option Addr} {n cap : Nat} {rs : List Row} (h : CIn W A n rs) : Calls Try.prog 7 #[.slice A n cap] W fun e w' => e = .returned (.bool true) ∧ Below W.heap.size W w' := by
  have hlen := h.len
  have hroom := h.room
  have Hin := Lib.hid h
  clear h
  obtain ⟨W1, hW1⟩ : ∃ W1, W1 = W.alloc (.cells #[.int .i64 0, .map none, .slice none 0 0, .int .i64 0] 47) := ⟨_, rfl⟩
  have hb1 : Below W.heap.size W W1 := by rw [hW1]; exact Below.alloc (Below.refl _ _) (Nat.le_refl _) _
  have hz1 : W1.heap[W.heap.size]? = some (.cells #[.int .i64 0, .map none, .slice none 0 0, .int .i64 0] 47 (0, 0)) := by rw [hW1]; exact blk_new W _
  have Hb1 := Lib.hid hb1
  have Hm1 := Lib.hid (MadeNot.zero hz1)
  have HW1 := Lib.hid hW1
  clear hb1 hz1 hW1
  go_enter Try.func7, Try.ntmps7
  go_wp2_with fail
  rw [← HW1.out]
  go_loopw [4] (fun v4 wr => ∃ (j : Nat), j ≤ n ∧ v4 = .int .i64 j ∧ MadeNot wr (.pointer (some ⟨W.heap.size, 0, none⟩)) ∧ Below W.heap.size W wr) (fun v _ => n - (intOf v).toNat)
  case atStart => exact ⟨0, Nat.zero_le _, rfl, Hm1.out, Hb1.out⟩
  case round =>
    obtain ⟨j, hj, rfl, hm, hb⟩ := hrel
    have Hm := Lib.hid hm
    have Hb := Lib.hid hb
    clear hm hb
    by_cases hlt : j < n
    · obtain ⟨ad, rfl⟩ := Hin.out.there hlt
      have hjr : j < rs.length := by omega
      obtain ⟨q0, q1, q2, q3, q4, q5, q6, q7, q8, q9⟩ := (Hin.out.below Hb.out).call j hjr
      go_wp2_with fail
      have K := step_any (PAt.no Hb.out.size (MadeNot.nil _)) (QAt.no Hb.out.size (RMadeNot.nil _)) (fun _ h => h.elim) SmX.no rs[j].x rs[j].A rs[j].n rs[j].c ((Hin.out.pix j hjr).below Hb.out) (Hin.out.pix j hjr).low
      unfold clv at K
      with_reducible refine K.mono ?_
      clear K
      rintro e w3 ⟨rfl, F3, G3, c3, d3, dis3, st3⟩
      have hb3 := st3.nof
      have Hm3 := Lib.hid (Hm.out.below hb3)
      have Hb3 := Lib.hid (Hb.out.trans (hb3.mono Hb.out.size))
      clear c3 d3 dis3 st3 hb3 q0 q1 q2 q3 q4 q5 q6 q7 q8 q9
      obtain ⟨q0, q1, q2, q3, q4, q5, q6, q7, q8, q9⟩ := (Hin.out.below Hb3.out).call j hjr
      have hpl : (ad.add (j * 10)).block < w3.heap.size := World.block_lt_of_cell? w3 _ q0
      go_wp2_with fail
      have hb4 : Below w3.heap.size w3 (w3.alloc (.cells #[.int .i64 0, .int .i64 0, .slice none 0 0, .slice none 0 0, .bool false] 50)) := Below.alloc (Below.refl _ _) (Nat.le_refl _) _
      have hb5 := Hb3.out.trans (hb4.mono Hb3.out.size)
      have K := step_any (PAt.no hb5.size (Hm3.out.below hb4)) (QAt.no hb5.size (RMadeNot.zero (blk_new w3 _))) (fun _ h => h.elim) SmX.no rs[j].x rs[j].A rs[j].n rs[j].c ((Hin.out.pix j hjr).below hb5) (Hin.out.pix j hjr).low
      unfold clv at K
      with_reducible refine K.mono ?_
      clear K
      rintro e w6 ⟨rfl, F6, G6, c6, d6, dis6, st6⟩
      have hb6 := st6.nof
      have Hm6 := Lib.hid ((Hm3.out.below hb4).below hb6)
      have Hb6 := Lib.hid (hb5.trans (hb6.mono hb5.size))
      clear c6 d6 dis6 st6 hb4 hb5 hb6 q0 q1 q2 q3 q4 q5 q6 q7 q8 q9
      go_wp2
      go_roundw
      case rel => exact ⟨j + 1, by omega, by go_num, Hm6.out, Hb6.out⟩
      case measure => simp [intOf]; omega
    · have hp : j = n := by omega
      subst hp
      go_wp2_with fail
      have K := no_copy (MadeNot.nil wr)
      with_reducible refine K.mono ?_
      clear K
      rintro e w5 ⟨rfl, hb5⟩
      have Hm5 := Lib.hid (Hm.out.below hb5)
      have Hb5 := Lib.hid (Hb.out.trans (hb5.mono Hb.out.size))
      clear hb5
      go_wp2_with fail
      have K := no_copy Hm5.out
      with_reducible refine K.mono ?_
      clear K
      rintro e w6 ⟨rfl, hb6⟩
      have Hm6 := Lib.hid (Hm5.out.below hb6)
      have Hb6 := Lib.hid (Hb5.out.trans (hb6.mono Hb5.out.size))
      clear hb6
      go_wp2_with fail
      have K := no_keys Hm6.out
      with_reducible refine K.mono ?_
      clear K
      rintro e w7 ⟨rfl, hb7⟩
      have Hb7 := Lib.hid (Hb6.out.trans (hb7.mono Hb6.out.size))
      clear hb7
      go_wp2_with fail
      refine (example_any w7).mono ?_
      rintro e w10 ⟨rfl, hb10⟩
      go_wp2
      go_ret
      exact ⟨rfl, Hb7.out.trans (hb10.mono Hb7.out.size)⟩
end Go.Proofs.Ytpdjfcnlbaaogaa
