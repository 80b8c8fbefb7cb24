/- A step of both caches. -/
import Derived.Test.YtpdjfcnlbaaogaaXc
import Derived.Test.YtpdjfcnlbaaogaaX
namespace Go.Proofs.Ytpdjfcnlbaaogaa
open Go.RowKit
set_option linter.unusedSimpArgs false
set_option maxRecDepth 20000

set_option maxHeartbeats 4000000 in
theorem step_any {w : World} {B : Nat} {vc vr : Value} {σ : Option Mo.Ca} {F G : Nat → Prop} (hc : PAt w B vc σ F) (hr : QAt w B vr σ G) (hd : ∀ b, F b → ¬ G b) (hs : SmX σ) (x : Mo.Cl) (A : Option Addr) (n c : Nat) (hi : PixIn w A n x.i.pix) (hlow : ∀ ad, A = some ad → x.i.pix ≠ [] → ad.block < B) :
    Calls Try.prog 11 #[vc, vr, clv x A n c] w fun e w' => e = .returned (.bool true) ∧ ∃ F' G', PAt w' B vc (σ.map (Mo.act x)) F' ∧ QAt w' B vr (σ.map (Mo.act x)) G' ∧ (∀ b, F' b → ¬ G' b) ∧ Stp w w' (fun b => F b ∨ G b) (fun b => F' b ∨ G' b) := by
  obtain ⟨kind, nn, k, i⟩ := x
  have hal : ∀ o, Below w.heap.size w (w.alloc o) := fun o => Below.alloc (Below.refl _ _) (Nat.le_refl _) o
  unfold clv
  simp only at hi hlow ⊢
  obtain ⟨W, hW⟩ : ∃ W, W = w.alloc (.cells #[.int .i64 kind, .int .i64 nn, .int .i64 k.node, .int .i64 k.stamp, .int .i64 k.level, .int .i64 k.x, .int .i64 k.y, .int .i64 i.w, .int .i64 i.h, .slice A n c] 34) := ⟨_, rfl⟩
  have hbW : Below w.heap.size w W := by rw [hW]; exact hal _
  have hxb : W.heap[w.heap.size]? = some (.cells #[.int .i64 kind, .int .i64 nn, .int .i64 k.node, .int .i64 k.stamp, .int .i64 k.level, .int .i64 k.x, .int .i64 k.y, .int .i64 i.w, .int .i64 i.h, .slice A n c] 34 (0, 0)) := by rw [hW]; exact blk_new w _
  have hsW : W.heap.size = w.heap.size + 1 := by rw [hW]; simp
  have hFx : ¬ F w.heap.size := fun h => by have := (hc.lt _ h).2; omega
  have hGx : ¬ G w.heap.size := fun h => by have := (hr.lt _ h).2; omega
  have Hc := Lib.hid (hc.below hbW)
  have Hr := Lib.hid (hr.below hbW)
  have Hd := Lib.hid hd
  have Hs := Lib.hid hs
  have Hi := Lib.hid (hi.below hbW)
  have Hlow := Lib.hid hlow
  have HW := Lib.hid hW
  have Hxb := Lib.hid hxb
  have St0 := Lib.hid (Stp.below hbW (fun b => F b ∨ G b))
  obtain ⟨x0, x1, x2, x3, x4, x5, x6, x7, x8, x9⟩ := blk10 hxb
  clear hc hr hd hs hi hlow hW hbW hxb hal
  go_enter Try.func11, Try.ntmps11
  by_cases e0 : kind = 0
  · subst e0
    go_wp2_with fail
    rw [← HW.out]
    have K := getX Hc.out k Hs.out
    unfold kv at K
    with_reducible refine K.mono ?_
    clear K
    rintro e w1 ⟨va, rfl, hva, F1, hc1, st1⟩
    obtain ⟨hr1, hd1⟩ := stepPQ Hc.out Hr.out Hd.out st1
    obtain ⟨vpa, rfl, hpa⟩ := hva
    obtain ⟨Aa, ca, rfl⟩ := own_slice hpa
    have hxb1 := Hc.out.blk st1 hFx Hxb.out
    have hsz1 := st1.1.size
    obtain ⟨W1, hW1⟩ : ∃ W1, W1 = w1.alloc (.cells #[.int .i64 (imX (lookX k σ)).w, .int .i64 (imX (lookX k σ)).h, .slice Aa (imX (lookX k σ)).pix.length ca] 32) := ⟨_, rfl⟩
    have hbW1 : Below w1.heap.size w1 W1 := by rw [hW1]; exact Below.alloc (Below.refl _ _) (Nat.le_refl _) _
    have hab : W1.heap[w1.heap.size]? = some (.cells #[.int .i64 (imX (lookX k σ)).w, .int .i64 (imX (lookX k σ)).h, .slice Aa (imX (lookX k σ)).pix.length ca] 32 (0, 0)) := by rw [hW1]; exact blk_new w1 _
    have hGa : ¬ G w1.heap.size := fun h => by have := (hr1.lt _ h).2; omega
    have hGx1 : ¬ G w.heap.size := hGx
    have hsW1 : W1.heap.size = w1.heap.size + 1 := by rw [hW1]; simp
    have Hxb1 := Lib.hid (blk_in hbW1 hxb1)
    have Hc1 := Lib.hid (hc1.below hbW1)
    have Hr1 := Lib.hid (hr1.below hbW1)
    have Hd1 := Lib.hid hd1
    have hva1 : ImIs W1 W.heap.size (.agg #[.int .i64 (imX (lookX k σ)).w, .int .i64 (imX (lookX k σ)).h, .slice Aa (imX (lookX k σ)).pix.length ca]) (imX (lookX k σ)) := ⟨_, rfl, own_below hpa hbW1⟩
    have Hva := Lib.hid hva1
    have Hab := Lib.hid hab
    have HW1 := Lib.hid hW1
    have St1 := Lib.hid (Stp.trans (Stp.trans St0.out (st1.orl G)) (Stp.below hbW1 _))
    clear x0 x1 x2 x3 x4 x5 x6 x7 x8 x9
    obtain ⟨x0, x1, x2, x3, x4, x5, x6, x7, x8, x9⟩ := blk10 hxb1
    have hxl : w.heap.size < w1.heap.size := by omega
    clear hc1 hr1 hd1 hpa hva1 hxb1 st1 hW1 hbW1 hab
    go_wp2_with fail
    rw [← HW1.out]
    have K := rgetX Hr1.out k Hs.out
    unfold kv at K
    with_reducible refine K.mono ?_
    clear K
    rintro e w2 ⟨vb, rfl, hvb, G2, hr2, st2⟩
    obtain ⟨hc2, hd2⟩ := stepQP Hc1.out Hr1.out (fun h => by cases σ with | none => rfl | some s => simp at h) Hd1.out st2
    obtain ⟨vpb, rfl, hpb⟩ := hvb
    obtain ⟨Ab, cb, rfl⟩ := own_slice hpb
    have hab2 := (st2.1.block _ (Array.getElem?_eq_some_iff.1 Hab.out).1 hGa).trans Hab.out
    have hva2 := (Hva.out.frame st2.1 Hr1.out.notPix)
    have hsm := Hs.out.im k
    obtain ⟨W2, hW2⟩ : ∃ W2, W2 = w2.alloc (.cells #[.int .i64 (imX (lookX k σ)).w, .int .i64 (imX (lookX k σ)).h, .slice Ab (imX (lookX k σ)).pix.length cb] 32) := ⟨_, rfl⟩
    have hbW2 : Below w2.heap.size w2 W2 := by rw [hW2]; exact Below.alloc (Below.refl _ _) (Nat.le_refl _) _
    have hva3 : InIm W2 _ _ := (hva2.read hsm).below hbW2
    have hvb3 : InIm W2 _ _ := InIm.below (ImIs.read ⟨_, rfl, hpb⟩ hsm) hbW2
    have hsz2 := st2.1.size
    have Hva3 := Lib.hid hva3
    have Hvb3 := Lib.hid hvb3
    have Hc2 := Lib.hid (hc2.below hbW2)
    have Hr2 := Lib.hid (hr2.below hbW2)
    have Hd2 := Lib.hid hd2
    have HW2 := Lib.hid hW2
    have St2 := Lib.hid (Stp.trans (Stp.trans St1.out (st2.orr F1)) (Stp.below hbW2 _))
    obtain ⟨a0, a1, a2, _⟩ := blk3 hab2
    have hal2 : w1.heap.size < w2.heap.size := by omega
    clear hc2 hr2 hd2 hpb hab2 hva2 hva3 hvb3 st2 hW2 hbW2 hsm x0 x1 x2 x3 x4 x5 x6 x7 x8 x9
    go_wp2_with fail
    rw [← HW2.out]
    have K := same_im _ _ Hva3.out Hvb3.out
    rw [decide_eq_true rfl] at K
    with_reducible refine K.mono ?_
    clear K
    rintro e w3 ⟨rfl, hb3⟩
    have Pe := Lib.hid (Hc2.out.below hb3)
    have Qe := Lib.hid (Hr2.out.below hb3)
    have De := Lib.hid Hd2.out
    have Se := Lib.hid (Stp.trans St2.out (Stp.below hb3 _))
    clear hb3 a0 a1 a2 Hc2 Hr2 Hd2 St2 Hva3 Hvb3
    go_wp2_with fail
    have K := keysXp Pe.out
    with_reducible refine K.mono ?_
    clear K
    rintro e y1 ⟨v5, rfl, ho5, hb5⟩
    obtain ⟨A5, c5, rfl⟩ := own_slice ho5
    have Ho5 := Lib.hid ho5
    have Hb5 := Lib.hid hb5
    clear ho5 hb5
    go_wp2_with fail
    have K := keysXq (Qe.out.below Hb5.out)
    with_reducible refine K.mono ?_
    clear K
    rintro e y2 ⟨v6, rfl, ho6, hb6⟩
    obtain ⟨A6, c6, rfl⟩ := own_slice ho6
    have Ho6 := Lib.hid ho6
    have Ho5' := Lib.hid (own_below Ho5.out hb6)
    have Hb6 := Lib.hid (Hb5.out.trans (hb6.mono Hb5.out.size))
    clear ho6 hb6 Ho5
    go_wp2_with fail
    have K := same_keys _ _ Ho5'.out Ho6.out (keysX_len Pe.out)
    rw [decide_eq_true rfl] at K
    with_reducible refine K.mono ?_
    clear K
    rintro e y3 ⟨rfl, hb7⟩
    have Hb7 := Lib.hid (Hb6.out.trans (hb7.mono Hb6.out.size))
    clear hb7
    go_wp2_with fail
    have K := evXp (Pe.out.below Hb7.out)
    with_reducible refine K.mono ?_
    clear K
    rintro e y4 ⟨rfl, hb8⟩
    have Hb8 := Lib.hid (Hb7.out.trans (hb8.mono Hb7.out.size))
    clear hb8
    go_wp2_with fail
    have K := evXq (Qe.out.below Hb8.out)
    with_reducible refine K.mono ?_
    clear K
    rintro e y5 ⟨rfl, hb9⟩
    have Hb9 := Lib.hid (Hb8.out.trans (hb9.mono Hb8.out.size))
    clear hb9
    go_wp2
    go_ret
    have ha : ∀ τ : Option Mo.Ca, τ.map (Mo.act ⟨0, nn, k, i⟩) = τ.map (Mo.get k) := by
      intro τ
      cases τ <;> simp [Mo.act]
    rw [ha]
    exact ⟨rfl, _, _, Pe.out.below Hb9.out, Qe.out.below Hb9.out, De.out, Stp.trans Se.out (Stp.below Hb9.out _)⟩
  by_cases e1 : kind = 1
  · subst e1
    go_wp2_with fail
    rw [← HW.out]
    have K := putX Hc.out k i A n c Hi.out
    unfold kv at K
    with_reducible refine K.mono ?_
    clear K
    rintro e w1 ⟨rfl, F1, hc1, st1⟩
    obtain ⟨hr1, hd1⟩ := stepPQ Hc.out Hr.out Hd.out st1
    have hxb1 := Hc.out.blk st1 hFx Hxb.out
    have hi1 : PixIn w1 A n i.pix := Hi.out.frame st1.1 (fun ad ha hx hF => by
      have h1 := Hlow.out ad ha hx
      have h2 := (Hc.out.lt _ hF).1
      omega)
    have Hc1 := Lib.hid hc1
    have Hr1 := Lib.hid hr1
    have Hd1 := Lib.hid hd1
    have Hi1 := Lib.hid hi1
    have St1 := Lib.hid (Stp.trans St0.out (st1.orl G))
    clear x0 x1 x2 x3 x4 x5 x6 x7 x8 x9
    obtain ⟨x0, x1, x2, x3, x4, x5, x6, x7, x8, x9⟩ := blk10 hxb1
    clear hc1 hr1 hd1 hi1 hxb1 st1
    go_wp2_with fail
    have K := rputX Hr1.out k i A n c Hi1.out Hlow.out
    unfold kv at K
    with_reducible refine K.mono ?_
    clear K
    rintro e w2 ⟨rfl, G2, hr2, st2⟩
    obtain ⟨hc2, hd2⟩ := stepQP Hc1.out Hr1.out (fun h => by cases σ with | none => rfl | some s => simp at h) Hd1.out st2
    have Pe := Lib.hid hc2
    have Qe := Lib.hid hr2
    have De := Lib.hid hd2
    have Se := Lib.hid (Stp.trans St1.out (st2.orr F1))
    clear hc2 hr2 hd2 st2 x0 x1 x2 x3 x4 x5 x6 x7 x8 x9
    go_wp2_with fail
    have K := keysXp Pe.out
    with_reducible refine K.mono ?_
    clear K
    rintro e y1 ⟨v5, rfl, ho5, hb5⟩
    obtain ⟨A5, c5, rfl⟩ := own_slice ho5
    have Ho5 := Lib.hid ho5
    have Hb5 := Lib.hid hb5
    clear ho5 hb5
    go_wp2_with fail
    have K := keysXq (Qe.out.below Hb5.out)
    with_reducible refine K.mono ?_
    clear K
    rintro e y2 ⟨v6, rfl, ho6, hb6⟩
    obtain ⟨A6, c6, rfl⟩ := own_slice ho6
    have Ho6 := Lib.hid ho6
    have Ho5' := Lib.hid (own_below Ho5.out hb6)
    have Hb6 := Lib.hid (Hb5.out.trans (hb6.mono Hb5.out.size))
    clear ho6 hb6 Ho5
    go_wp2_with fail
    have K := same_keys _ _ Ho5'.out Ho6.out (keysX_len Pe.out)
    rw [decide_eq_true rfl] at K
    with_reducible refine K.mono ?_
    clear K
    rintro e y3 ⟨rfl, hb7⟩
    have Hb7 := Lib.hid (Hb6.out.trans (hb7.mono Hb6.out.size))
    clear hb7
    go_wp2_with fail
    have K := evXp (Pe.out.below Hb7.out)
    with_reducible refine K.mono ?_
    clear K
    rintro e y4 ⟨rfl, hb8⟩
    have Hb8 := Lib.hid (Hb7.out.trans (hb8.mono Hb7.out.size))
    clear hb8
    go_wp2_with fail
    have K := evXq (Qe.out.below Hb8.out)
    with_reducible refine K.mono ?_
    clear K
    rintro e y5 ⟨rfl, hb9⟩
    have Hb9 := Lib.hid (Hb8.out.trans (hb9.mono Hb8.out.size))
    clear hb9
    go_wp2
    go_ret
    have ha : ∀ τ : Option Mo.Ca, τ.map (Mo.act ⟨1, nn, k, i⟩) = τ.map (Mo.put k i) := by
      intro τ
      cases τ <;> simp [Mo.act]
    rw [ha]
    exact ⟨rfl, _, _, Pe.out.below Hb9.out, Qe.out.below Hb9.out, De.out, Stp.trans Se.out (Stp.below Hb9.out _)⟩
  by_cases e2 : kind = 2
  · subst e2
    go_wp2_with fail
    rw [← HW.out]
    go_region_held3 (fun w' => w'.cell? ⟨w.heap.size, 1, none⟩ = some (.int .i64 nn))
      (first
        | go_keep
        | exact Hk1.out
        | exact Hk2.out)
      (first
        | (go_at_call 28
           have K := dropX (w := W.drew) (Hc.out.below (Below.drew (Below.refl _ _))) nn
           with_reducible refine K.mono ?_
           clear K
           rintro e w1 ⟨rfl, F1, hc1, st1⟩
           obtain ⟨hr1, hd1⟩ := stepPQ (w := W.drew) (Hc.out.below (Below.drew (Below.refl _ _))) (Hr.out.below (Below.drew (Below.refl _ _))) Hd.out st1
           have hxb1 := PAt.blk (w := W.drew) (Hc.out.below (Below.drew (Below.refl _ _))) st1 hFx Hxb.out
           have Hk1 := Lib.hid ((blk10 hxb1).2.1 : w1.cell? ⟨w.heap.size, 1, none⟩ = some (.int .i64 nn))
           have Hxb1 := Lib.hid hxb1
           have Hc1 := Lib.hid hc1
           have Hr1 := Lib.hid hr1
           have Hd1 := Lib.hid hd1
           have St1 := Lib.hid (Stp.trans (Stp.trans St0.out (Stp.below (Below.drew (Below.refl _ _)) _)) (st1.orl G))
           clear hc1 hr1 hd1 hxb1 st1)
        | (go_at_call 29
           have K := rdropX Hr1.out nn
           with_reducible refine K.mono ?_
           clear K
           rintro e w2 ⟨rfl, G2, hr2, st2⟩
           obtain ⟨hc2, hd2⟩ := stepQP Hc1.out Hr1.out (fun h => by cases σ with | none => rfl | some s => simp at h) Hd1.out st2
           have hxb2 := (st2.1.block _ (Array.getElem?_eq_some_iff.1 Hxb1.out).1 hGx).trans Hxb1.out
           have Hk2 := Lib.hid ((blk10 hxb2).2.1 : w2.cell? ⟨w.heap.size, 1, none⟩ = some (.int .i64 nn))
           have Pe := Lib.hid hc2
           have Qe := Lib.hid hr2
           have De := Lib.hid hd2
           have Se := Lib.hid (Stp.trans St1.out (st2.orr F1))
           clear hc2 hr2 hd2 st2 hxb2))
    clear x0 x1 x2 x3 x4 x5 x6 x7 x8 x9
    go_wp2_with fail
    have K := keysXp Pe.out
    with_reducible refine K.mono ?_
    clear K
    rintro e y1 ⟨v5, rfl, ho5, hb5⟩
    obtain ⟨A5, c5, rfl⟩ := own_slice ho5
    have Ho5 := Lib.hid ho5
    have Hb5 := Lib.hid hb5
    clear ho5 hb5
    go_wp2_with fail
    have K := keysXq (Qe.out.below Hb5.out)
    with_reducible refine K.mono ?_
    clear K
    rintro e y2 ⟨v6, rfl, ho6, hb6⟩
    obtain ⟨A6, c6, rfl⟩ := own_slice ho6
    have Ho6 := Lib.hid ho6
    have Ho5' := Lib.hid (own_below Ho5.out hb6)
    have Hb6 := Lib.hid (Hb5.out.trans (hb6.mono Hb5.out.size))
    clear ho6 hb6 Ho5
    go_wp2_with fail
    have K := same_keys _ _ Ho5'.out Ho6.out (keysX_len Pe.out)
    rw [decide_eq_true rfl] at K
    with_reducible refine K.mono ?_
    clear K
    rintro e y3 ⟨rfl, hb7⟩
    have Hb7 := Lib.hid (Hb6.out.trans (hb7.mono Hb6.out.size))
    clear hb7
    go_wp2_with fail
    have K := evXp (Pe.out.below Hb7.out)
    with_reducible refine K.mono ?_
    clear K
    rintro e y4 ⟨rfl, hb8⟩
    have Hb8 := Lib.hid (Hb7.out.trans (hb8.mono Hb7.out.size))
    clear hb8
    go_wp2_with fail
    have K := evXq (Qe.out.below Hb8.out)
    with_reducible refine K.mono ?_
    clear K
    rintro e y5 ⟨rfl, hb9⟩
    have Hb9 := Lib.hid (Hb8.out.trans (hb9.mono Hb8.out.size))
    clear hb9
    go_wp2
    go_ret
    have ha : ∀ τ : Option Mo.Ca, τ.map (Mo.act ⟨2, nn, k, i⟩) = τ.map (Mo.drop nn) := by
      intro τ
      cases τ <;> simp [Mo.act]
    rw [ha]
    exact ⟨rfl, _, _, Pe.out.below Hb9.out, Qe.out.below Hb9.out, De.out, Stp.trans Se.out (Stp.below Hb9.out _)⟩
  by_cases e3 : kind = 3
  · subst e3
    go_wp2_with fail
    rw [← HW.out]
    go_region_held3 (fun w' => w'.cell? ⟨w.heap.size, 2, none⟩ = some (.int .i64 k.node) ∧ w'.cell? ⟨w.heap.size, 3, none⟩ = some (.int .i64 k.stamp) ∧ w'.cell? ⟨w.heap.size, 4, none⟩ = some (.int .i64 k.level) ∧ w'.cell? ⟨w.heap.size, 5, none⟩ = some (.int .i64 k.x) ∧ w'.cell? ⟨w.heap.size, 6, none⟩ = some (.int .i64 k.y))
      (first
        | go_keep
        | exact Hk1.out
        | exact Hk2.out)
      (first
        | (go_at_call 30
           have K := removeX (w := W.drew) (Hc.out.below (Below.drew (Below.refl _ _))) k
           unfold kv at K
           with_reducible refine K.mono ?_
           clear K
           rintro e w1 ⟨rfl, F1, hc1, st1⟩
           obtain ⟨hr1, hd1⟩ := stepPQ (w := W.drew) (Hc.out.below (Below.drew (Below.refl _ _))) (Hr.out.below (Below.drew (Below.refl _ _))) Hd.out st1
           have hxb1 := PAt.blk (w := W.drew) (Hc.out.below (Below.drew (Below.refl _ _))) st1 hFx Hxb.out
           have Hk1 := Lib.hid (⟨(blk10 hxb1).2.2.1, (blk10 hxb1).2.2.2.1, (blk10 hxb1).2.2.2.2.1, (blk10 hxb1).2.2.2.2.2.1, (blk10 hxb1).2.2.2.2.2.2.1⟩ : w1.cell? ⟨w.heap.size, 2, none⟩ = some (.int .i64 k.node) ∧ w1.cell? ⟨w.heap.size, 3, none⟩ = some (.int .i64 k.stamp) ∧ w1.cell? ⟨w.heap.size, 4, none⟩ = some (.int .i64 k.level) ∧ w1.cell? ⟨w.heap.size, 5, none⟩ = some (.int .i64 k.x) ∧ w1.cell? ⟨w.heap.size, 6, none⟩ = some (.int .i64 k.y))
           have Hxb1 := Lib.hid hxb1
           have Hc1 := Lib.hid hc1
           have Hr1 := Lib.hid hr1
           have Hd1 := Lib.hid hd1
           have St1 := Lib.hid (Stp.trans (Stp.trans St0.out (Stp.below (Below.drew (Below.refl _ _)) _)) (st1.orl G))
           clear hc1 hr1 hd1 hxb1 st1)
        | (go_at_call 31
           have K := rremoveX Hr1.out k
           unfold kv at K
           with_reducible refine K.mono ?_
           clear K
           rintro e w2 ⟨rfl, G2, hr2, st2⟩
           obtain ⟨hc2, hd2⟩ := stepQP Hc1.out Hr1.out (fun h => by cases σ with | none => rfl | some s => simp at h) Hd1.out st2
           have hxb2 := (st2.1.block _ (Array.getElem?_eq_some_iff.1 Hxb1.out).1 hGx).trans Hxb1.out
           have Hk2 := Lib.hid (⟨(blk10 hxb2).2.2.1, (blk10 hxb2).2.2.2.1, (blk10 hxb2).2.2.2.2.1, (blk10 hxb2).2.2.2.2.2.1, (blk10 hxb2).2.2.2.2.2.2.1⟩ : w2.cell? ⟨w.heap.size, 2, none⟩ = some (.int .i64 k.node) ∧ w2.cell? ⟨w.heap.size, 3, none⟩ = some (.int .i64 k.stamp) ∧ w2.cell? ⟨w.heap.size, 4, none⟩ = some (.int .i64 k.level) ∧ w2.cell? ⟨w.heap.size, 5, none⟩ = some (.int .i64 k.x) ∧ w2.cell? ⟨w.heap.size, 6, none⟩ = some (.int .i64 k.y))
           have Pe := Lib.hid hc2
           have Qe := Lib.hid hr2
           have De := Lib.hid hd2
           have Se := Lib.hid (Stp.trans St1.out (st2.orr F1))
           clear hc2 hr2 hd2 st2 hxb2))
    clear x0 x1 x2 x3 x4 x5 x6 x7 x8 x9
    go_wp2_with fail
    have K := keysXp Pe.out
    with_reducible refine K.mono ?_
    clear K
    rintro e y1 ⟨v5, rfl, ho5, hb5⟩
    obtain ⟨A5, c5, rfl⟩ := own_slice ho5
    have Ho5 := Lib.hid ho5
    have Hb5 := Lib.hid hb5
    clear ho5 hb5
    go_wp2_with fail
    have K := keysXq (Qe.out.below Hb5.out)
    with_reducible refine K.mono ?_
    clear K
    rintro e y2 ⟨v6, rfl, ho6, hb6⟩
    obtain ⟨A6, c6, rfl⟩ := own_slice ho6
    have Ho6 := Lib.hid ho6
    have Ho5' := Lib.hid (own_below Ho5.out hb6)
    have Hb6 := Lib.hid (Hb5.out.trans (hb6.mono Hb5.out.size))
    clear ho6 hb6 Ho5
    go_wp2_with fail
    have K := same_keys _ _ Ho5'.out Ho6.out (keysX_len Pe.out)
    rw [decide_eq_true rfl] at K
    with_reducible refine K.mono ?_
    clear K
    rintro e y3 ⟨rfl, hb7⟩
    have Hb7 := Lib.hid (Hb6.out.trans (hb7.mono Hb6.out.size))
    clear hb7
    go_wp2_with fail
    have K := evXp (Pe.out.below Hb7.out)
    with_reducible refine K.mono ?_
    clear K
    rintro e y4 ⟨rfl, hb8⟩
    have Hb8 := Lib.hid (Hb7.out.trans (hb8.mono Hb7.out.size))
    clear hb8
    go_wp2_with fail
    have K := evXq (Qe.out.below Hb8.out)
    with_reducible refine K.mono ?_
    clear K
    rintro e y5 ⟨rfl, hb9⟩
    have Hb9 := Lib.hid (Hb8.out.trans (hb9.mono Hb8.out.size))
    clear hb9
    go_wp2
    go_ret
    have ha : ∀ τ : Option Mo.Ca, τ.map (Mo.act ⟨3, nn, k, i⟩) = τ.map (Mo.remove k) := by
      intro τ
      cases τ <;> simp [Mo.act]
    rw [ha]
    exact ⟨rfl, _, _, Pe.out.below Hb9.out, Qe.out.below Hb9.out, De.out, Stp.trans Se.out (Stp.below Hb9.out _)⟩
  by_cases e4 : kind = 4
  · subst e4
    go_wp2_with fail
    rw [← HW.out]
    go_region_held3 (fun w' => w'.cell? ⟨w.heap.size, 1, none⟩ = some (.int .i64 nn))
      (first
        | go_keep
        | exact Hk1.out
        | exact Hk2.out)
      (first
        | (go_at_call 32
           have K := resizeX (w := W.drew) (Hc.out.below (Below.drew (Below.refl _ _))) nn
           with_reducible refine K.mono ?_
           clear K
           rintro e w1 ⟨rfl, F1, hc1, st1⟩
           obtain ⟨hr1, hd1⟩ := stepPQ (w := W.drew) (Hc.out.below (Below.drew (Below.refl _ _))) (Hr.out.below (Below.drew (Below.refl _ _))) Hd.out st1
           have hxb1 := PAt.blk (w := W.drew) (Hc.out.below (Below.drew (Below.refl _ _))) st1 hFx Hxb.out
           have Hk1 := Lib.hid ((blk10 hxb1).2.1 : w1.cell? ⟨w.heap.size, 1, none⟩ = some (.int .i64 nn))
           have Hxb1 := Lib.hid hxb1
           have Hc1 := Lib.hid hc1
           have Hr1 := Lib.hid hr1
           have Hd1 := Lib.hid hd1
           have St1 := Lib.hid (Stp.trans (Stp.trans St0.out (Stp.below (Below.drew (Below.refl _ _)) _)) (st1.orl G))
           clear hc1 hr1 hd1 hxb1 st1)
        | (go_at_call 33
           have K := rresizeX Hr1.out nn
           with_reducible refine K.mono ?_
           clear K
           rintro e w2 ⟨rfl, G2, hr2, st2⟩
           obtain ⟨hc2, hd2⟩ := stepQP Hc1.out Hr1.out (fun h => by cases σ with | none => rfl | some s => simp at h) Hd1.out st2
           have hxb2 := (st2.1.block _ (Array.getElem?_eq_some_iff.1 Hxb1.out).1 hGx).trans Hxb1.out
           have Hk2 := Lib.hid ((blk10 hxb2).2.1 : w2.cell? ⟨w.heap.size, 1, none⟩ = some (.int .i64 nn))
           have Pe := Lib.hid hc2
           have Qe := Lib.hid hr2
           have De := Lib.hid hd2
           have Se := Lib.hid (Stp.trans St1.out (st2.orr F1))
           clear hc2 hr2 hd2 st2 hxb2))
    clear x0 x1 x2 x3 x4 x5 x6 x7 x8 x9
    go_wp2_with fail
    have K := keysXp Pe.out
    with_reducible refine K.mono ?_
    clear K
    rintro e y1 ⟨v5, rfl, ho5, hb5⟩
    obtain ⟨A5, c5, rfl⟩ := own_slice ho5
    have Ho5 := Lib.hid ho5
    have Hb5 := Lib.hid hb5
    clear ho5 hb5
    go_wp2_with fail
    have K := keysXq (Qe.out.below Hb5.out)
    with_reducible refine K.mono ?_
    clear K
    rintro e y2 ⟨v6, rfl, ho6, hb6⟩
    obtain ⟨A6, c6, rfl⟩ := own_slice ho6
    have Ho6 := Lib.hid ho6
    have Ho5' := Lib.hid (own_below Ho5.out hb6)
    have Hb6 := Lib.hid (Hb5.out.trans (hb6.mono Hb5.out.size))
    clear ho6 hb6 Ho5
    go_wp2_with fail
    have K := same_keys _ _ Ho5'.out Ho6.out (keysX_len Pe.out)
    rw [decide_eq_true rfl] at K
    with_reducible refine K.mono ?_
    clear K
    rintro e y3 ⟨rfl, hb7⟩
    have Hb7 := Lib.hid (Hb6.out.trans (hb7.mono Hb6.out.size))
    clear hb7
    go_wp2_with fail
    have K := evXp (Pe.out.below Hb7.out)
    with_reducible refine K.mono ?_
    clear K
    rintro e y4 ⟨rfl, hb8⟩
    have Hb8 := Lib.hid (Hb7.out.trans (hb8.mono Hb7.out.size))
    clear hb8
    go_wp2_with fail
    have K := evXq (Qe.out.below Hb8.out)
    with_reducible refine K.mono ?_
    clear K
    rintro e y5 ⟨rfl, hb9⟩
    have Hb9 := Lib.hid (Hb8.out.trans (hb9.mono Hb8.out.size))
    clear hb9
    go_wp2
    go_ret
    have ha : ∀ τ : Option Mo.Ca, τ.map (Mo.act ⟨4, nn, k, i⟩) = τ.map (Mo.resize nn) := by
      intro τ
      cases τ <;> simp [Mo.act]
    rw [ha]
    exact ⟨rfl, _, _, Pe.out.below Hb9.out, Qe.out.below Hb9.out, De.out, Stp.trans Se.out (Stp.below Hb9.out _)⟩
  · have Pe := Lib.hid Hc.out
    have Qe := Lib.hid Hr.out
    have De := Lib.hid Hd.out
    have Se := Lib.hid St0.out
    clear x0 x1 x2 x3 x4 x5 x6 x7 x8 x9
    go_wp2_with fail
    rw [← HW.out]
    have K := keysXp Pe.out
    with_reducible refine K.mono ?_
    clear K
    rintro e y1 ⟨v5, rfl, ho5, hb5⟩
    obtain ⟨A5, c5, rfl⟩ := own_slice ho5
    have Ho5 := Lib.hid ho5
    have Hb5 := Lib.hid hb5
    clear ho5 hb5
    go_wp2_with fail
    have K := keysXq (Qe.out.below Hb5.out)
    with_reducible refine K.mono ?_
    clear K
    rintro e y2 ⟨v6, rfl, ho6, hb6⟩
    obtain ⟨A6, c6, rfl⟩ := own_slice ho6
    have Ho6 := Lib.hid ho6
    have Ho5' := Lib.hid (own_below Ho5.out hb6)
    have Hb6 := Lib.hid (Hb5.out.trans (hb6.mono Hb5.out.size))
    clear ho6 hb6 Ho5
    go_wp2_with fail
    have K := same_keys _ _ Ho5'.out Ho6.out (keysX_len Pe.out)
    rw [decide_eq_true rfl] at K
    with_reducible refine K.mono ?_
    clear K
    rintro e y3 ⟨rfl, hb7⟩
    have Hb7 := Lib.hid (Hb6.out.trans (hb7.mono Hb6.out.size))
    clear hb7
    go_wp2_with fail
    have K := evXp (Pe.out.below Hb7.out)
    with_reducible refine K.mono ?_
    clear K
    rintro e y4 ⟨rfl, hb8⟩
    have Hb8 := Lib.hid (Hb7.out.trans (hb8.mono Hb7.out.size))
    clear hb8
    go_wp2_with fail
    have K := evXq (Qe.out.below Hb8.out)
    with_reducible refine K.mono ?_
    clear K
    rintro e y5 ⟨rfl, hb9⟩
    have Hb9 := Lib.hid (Hb8.out.trans (hb9.mono Hb8.out.size))
    clear hb9
    go_wp2
    go_ret
    have ha : ∀ τ : Option Mo.Ca, τ.map (Mo.act ⟨kind, nn, k, i⟩) = τ := by
      intro τ
      cases τ <;> simp [Mo.act, e0, e1, e2, e3, e4]
    rw [ha]
    exact ⟨rfl, _, _, Pe.out.below Hb9.out, Qe.out.below Hb9.out, De.out, Stp.trans Se.out (Stp.below Hb9.out _)⟩
end Go.Proofs.Ytpdjfcnlbaaogaa
