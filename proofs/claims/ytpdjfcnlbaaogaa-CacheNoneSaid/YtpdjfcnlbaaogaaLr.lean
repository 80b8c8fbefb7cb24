/- The law CacheRuns walked. -/
import Derived.Test.YtpdjfcnlbaaogaaSt
import Derived.Test.YtpdjfcnlbaaogaaEx
import Derived.Test.YtpdjfcnlbaaogaaOp
import Derived.Test.YtpdjfcnlbaaogaaLb
namespace Go.Proofs.Ytpdjfcnlbaaogaa
open Go.RowKit
set_option linter.unusedSimpArgs false
set_option maxRecDepth 20000

theorem PixIn.low {w : World} {A : Option Addr} {n : Nat} {xs : List Mo.Px} (h : PixIn w A n xs) : ∀ ad, A = some ad → xs ≠ [] → ad.block < w.heap.size := by
  intro ad ha hx
  obtain ⟨x, r, rfl⟩ := List.exists_cons_of_ne_nil hx
  have h1 := h.cell ad ha 0 (.int .i64 x.r) (by simp [flatP, pcells])
  have h2 := World.block_lt_of_cell? w _ h1
  have h3 : (ad.add 0).block = ad.block := by unfold Addr.add; rfl
  rw [h3] at h2
  exact h2
theorem Stp.toBelow {w w' : World} {B : Nat} {F F' : Nat → Prop} (st : Stp w w' F F') (hB : B ≤ w.heap.size) (hF : ∀ b, F b → B ≤ b) : Below B w w' := st.1.toBelow hB hF
theorem PAt.of {w : World} {B p : Nat} {s : Mo.Ca} {F : Nat → Prop} (h : CAt w B p s F) : PAt w B (.pointer (some ⟨p, 0, none⟩)) (some s) F := ⟨p, rfl, h⟩
theorem QAt.of {w : World} {B p : Nat} {s : Mo.Ca} {F : Nat → Prop} (h : RAt w B p s F) : QAt w B (.pointer (some ⟨p, 0, none⟩)) (some s) F := ⟨p, rfl, h⟩
theorem PAt.at {w : World} {B p : Nat} {s : Mo.Ca} {F : Nat → Prop} (h : PAt w B (.pointer (some ⟨p, 0, none⟩)) (some s) F) : CAt w B p s F := by
  obtain ⟨q, he, h⟩ := h
  obtain rfl : q = p := by simp at he; exact he.symm
  exact h
theorem QAt.at {w : World} {B p : Nat} {s : Mo.Ca} {F : Nat → Prop} (h : QAt w B (.pointer (some ⟨p, 0, none⟩)) (some s) F) : RAt w B p s F := by
  obtain ⟨q, he, h⟩ := h
  obtain rfl : q = p := by simp at he; exact he.symm
  exact h
theorem SmX.some {s : Mo.Ca} (h : Mo.Sm s) : SmX (some s) := fun t ht => by cases ht; exact h

set_option maxHeartbeats 1000000 in
theorem runs_walk {W : World} {A : Option Addr} {n cap : Nat} {rs : List Row} (b : Int) (h : CIn W A n rs) : Calls Try.prog 3 #[.int .i64 b, .slice A n cap] W fun e w' => e = .returned (.bool true) ∧ Below W.heap.size W w' := by
  have hlen := h.len
  have hroom := h.room
  have Hin := Lib.hid h
  clear h
  go_enter Try.func3, Try.ntmps3
  go_wp2_with fail
  refine (new_any b W W.heap.size (Nat.le_refl _)).mono ?_
  rintro e w1 ⟨p, F1, rfl, c1, b1, _⟩
  have C1 := Lib.hid c1
  have B1 := Lib.hid b1
  clear c1 b1
  go_wp2_with fail
  refine (rnew_any b w1 W.heap.size B1.out.size).mono ?_
  rintro e w2 ⟨q, G1, rfl, d1, b2, hg1⟩
  have hdis : ∀ x, F1 x → ¬ G1 x := fun x hf hg => by
    have := (C1.out.lt x hf).2
    have := hg1 x hg
    omega
  have C2 := Lib.hid (C1.out.below b2)
  have D2 := Lib.hid d1
  have B2 := Lib.hid (B1.out.trans (b2.mono B1.out.size))
  have Hdis := Lib.hid hdis
  clear d1 b2 hdis hg1
  go_wp2_with fail
  go_loopw [7] (fun v7 wr => ∃ (j : Nat) (s : Mo.Ca) (F G : Nat → Prop), j ≤ n ∧ v7 = .int .i64 j ∧ CAt wr W.heap.size p s F ∧ RAt wr W.heap.size q s G ∧ (∀ x, F x → ¬ G x) ∧ Mo.Sm s ∧ Below W.heap.size W wr) (fun v _ => n - (intOf v).toNat)
  case atStart => exact ⟨0, Mo.new b, F1, G1, Nat.zero_le _, rfl, C2.out, D2.out, Hdis.out, Mo.Sm.new b, B2.out⟩
  case round =>
    obtain ⟨j, s, F, G, hj, rfl, hc, hd, hdis, hs, hb⟩ := hrel
    have Hc := Lib.hid (PAt.of hc)
    have Hd := Lib.hid (QAt.of hd)
    have Hdj := Lib.hid hdis
    have Hs := Lib.hid hs
    have Hb := Lib.hid hb
    clear hc hd hdis hs hb
    by_cases hlt : j < n
    · obtain ⟨ad, rfl⟩ := Hin.out.there hlt
      have hjr : j < rs.length := by omega
      obtain ⟨q0, q1, q2, q3, q4, q5, q6, q7, q8, q9⟩ := (Hin.out.below Hb.out).call j hjr
      go_wp2_with fail
      have K := step_any Hc.out Hd.out Hdj.out (SmX.some Hs.out) rs[j].x rs[j].A rs[j].n rs[j].c ((Hin.out.pix j hjr).below Hb.out) (Hin.out.pix j hjr).low
      unfold clv at K
      with_reducible refine K.mono ?_
      clear K
      rintro e w3 ⟨rfl, F3, G3, c3, d3, dis3, st3⟩
      have hb3 : Below W.heap.size W w3 := Hb.out.trans (st3.toBelow Hb.out.size (fun b hb => hb.elim (fun h => (PAt.lt Hc.out b h).1) (fun h => (QAt.lt Hd.out b h).1)))
      have hs3 := Hs.out.act rs[j].x (Hin.out.pix j hjr).small
      have C3 := Lib.hid c3
      have D3 := Lib.hid d3
      have Dis3 := Lib.hid dis3
      have Hs3 := Lib.hid hs3
      have B3 := Lib.hid hb3
      clear c3 d3 dis3 hs3 hb3 st3 q0 q1 q2 q3 q4 q5 q6 q7 q8 q9
      go_wp2
      go_roundw
      case rel => exact ⟨j + 1, _, F3, G3, by omega, by go_num, PAt.at C3.out, QAt.at D3.out, Dis3.out, Hs3.out, B3.out⟩
      case measure => simp [intOf]; omega
    · have hp : j = n := by omega
      subst hp
      go_wp2_with fail
      have K := keysXp Hc.out
      with_reducible refine K.mono ?_
      clear K
      rintro e w5 ⟨v5, rfl, ho5, hb5⟩
      obtain ⟨A5, c5, rfl⟩ := own_slice ho5
      have Ho5 := Lib.hid ho5
      have B5 := Lib.hid (Hb.out.trans (hb5.mono Hb.out.size))
      have C5 := Lib.hid (PAt.below Hc.out hb5)
      have D5 := Lib.hid (QAt.below Hd.out hb5)
      clear ho5 hb5
      go_wp2_with fail
      have K := keysXq D5.out
      with_reducible refine K.mono ?_
      clear K
      rintro e w6 ⟨v6, rfl, ho6, hb6⟩
      obtain ⟨A6, c6, rfl⟩ := own_slice ho6
      have Ho5' := Lib.hid (own_below Ho5.out hb6)
      have Ho6 := Lib.hid ho6
      have B6 := Lib.hid (B5.out.trans (hb6.mono B5.out.size))
      have C6 := Lib.hid (PAt.below C5.out hb6)
      have D6 := Lib.hid (QAt.below D5.out hb6)
      have hk5 := keysX_len Hc.out
      clear ho6 hb6 Ho5 C5 D5
      go_wp2_with fail
      have K := same_keys _ _ Ho5'.out Ho6.out hk5
      rw [decide_eq_true rfl] at K
      with_reducible refine K.mono ?_
      clear K
      rintro e w7 ⟨rfl, hb7⟩
      have B7 := Lib.hid (B6.out.trans (hb7.mono B6.out.size))
      have C7 := Lib.hid (PAt.below C6.out hb7)
      have D7 := Lib.hid (QAt.below D6.out hb7)
      clear hb7
      go_wp2_with fail
      have K := evXp C7.out
      with_reducible refine K.mono ?_
      clear K
      rintro e w8 ⟨rfl, hb8⟩
      have B8 := Lib.hid (B7.out.trans (hb8.mono B7.out.size))
      have D8 := Lib.hid (QAt.below D7.out hb8)
      clear hb8
      go_wp2_with fail
      have K := evXq D8.out
      with_reducible refine K.mono ?_
      clear K
      rintro e w9 ⟨rfl, hb9⟩
      have B9 := Lib.hid (B8.out.trans (hb9.mono B8.out.size))
      clear hb9
      go_wp2_with fail
      refine (example_any w9).mono ?_
      rintro e w10 ⟨rfl, hb10⟩
      go_wp2
      go_ret
      exact ⟨rfl, B9.out.trans (hb10.mono B9.out.size)⟩
end Go.Proofs.Ytpdjfcnlbaaogaa
