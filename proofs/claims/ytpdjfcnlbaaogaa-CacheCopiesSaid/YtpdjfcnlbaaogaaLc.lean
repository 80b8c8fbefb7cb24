/- The law CacheCopies walked. -/
import Derived.Test.YtpdjfcnlbaaogaaLr
namespace Go.Proofs.Ytpdjfcnlbaaogaa
open Go.RowKit
set_option linter.unusedSimpArgs false
set_option maxRecDepth 20000

/-- Two caches of each side: the first pair stays where the second is turned. -/
theorem pair_stay {w w' : World} {B : Nat} {vc vr : Value} {s : Mo.Ca} {F G X X' : Nat → Prop} (hc : PAt w B vc (some s) F) (hr : QAt w B vr (some s) G) (hd : ∀ b, F b ∨ G b → ¬ X b) (hX : ∀ b, X b → NotPix w b) (st : Stp w w' X X') :
    PAt w' B vc (some s) F ∧ QAt w' B vr (some s) G ∧ ∀ b, F b ∨ G b → ¬ X' b :=
  ⟨hc.stay st.1 (fun b h => hd b (.inl h)) hX (fun h => by cases h), hr.stay st.1 (fun b h => hd b (.inr h)) hX (fun h => by cases h), fun b hb hx => by
    rcases st.2 b hx with h | h
    · exact hd b hb h
    · rcases hb with hb | hb
      · have := (hc.lt b hb).2; omega
      · have := (hr.lt b hb).2; omega⟩

set_option maxHeartbeats 4000000 in
theorem copies_walk {W : World} {A : Option Addr} {n cap : Nat} {rs : List Row} {A' : Option Addr} {n' cap' : Nat} {rs' : List Row} (b : Int) (h : CIn W A n rs) (h' : CIn W A' n' rs') : Calls Try.prog 8 #[.int .i64 b, .slice A n cap, .slice A' n' cap'] W fun e w' => e = .returned (.bool true) ∧ Below W.heap.size W w' := by
  have hlen := h.len
  have hroom := h.room
  have hlen' := h'.len
  have hroom' := h'.room
  have Hin := Lib.hid h
  have Hin' := Lib.hid h'
  clear h h'
  go_enter Try.func8, Try.ntmps8
  go_wp2_with fail
  refine (new_any b W W.heap.size (Nat.le_refl _)).mono ?_
  rintro e w1 ⟨p, F1, rfl, c1, b1, _⟩
  have C1 := Lib.hid c1
  have B1 := Lib.hid b1
  clear c1 b1
  go_wp2_with fail
  refine (rnew_any b w1 W.heap.size B1.out.size).mono ?_
  rintro e w2 ⟨q, G1, rfl, d1, b2, hg1⟩
  have hdis : ∀ x, F1 x → ¬ G1 x := fun x hf hg => by
    have := (C1.out.lt x hf).2
    have := hg1 x hg
    omega
  have C2 := Lib.hid (C1.out.below b2)
  have D2 := Lib.hid d1
  have B2 := Lib.hid (B1.out.trans (b2.mono B1.out.size))
  have Hdis := Lib.hid hdis
  clear d1 b2 hdis hg1
  go_wp2_with fail
  go_loopw [9] (fun v7 wr => ∃ (j : Nat) (s : Mo.Ca) (F G : Nat → Prop), j ≤ n ∧ v7 = .int .i64 j ∧ CAt wr W.heap.size p s F ∧ RAt wr W.heap.size q s G ∧ (∀ x, F x → ¬ G x) ∧ Mo.Sm s ∧ Below W.heap.size W wr) (fun v _ => n - (intOf v).toNat)
  case atStart => exact ⟨0, Mo.new b, F1, G1, Nat.zero_le _, rfl, C2.out, D2.out, Hdis.out, Mo.Sm.new b, B2.out⟩
  case round =>
    obtain ⟨j, s, F, G, hj, rfl, hc, hd, hdis, hs, hb⟩ := hrel
    have Hc := Lib.hid (PAt.of hc)
    have Hd := Lib.hid (QAt.of hd)
    have Hdj := Lib.hid hdis
    have Hs := Lib.hid hs
    have Hb := Lib.hid hb
    clear hc hd hdis hs hb
    by_cases hlt : j < n
    · obtain ⟨ad, rfl⟩ := Hin.out.there hlt
      have hjr : j < rs.length := by omega
      obtain ⟨q0, q1, q2, q3, q4, q5, q6, q7, q8, q9⟩ := (Hin.out.below Hb.out).call j hjr
      go_wp2_with fail
      have K := step_any Hc.out Hd.out Hdj.out (SmX.some Hs.out) rs[j].x rs[j].A rs[j].n rs[j].c ((Hin.out.pix j hjr).below Hb.out) (Hin.out.pix j hjr).low
      unfold clv at K
      with_reducible refine K.mono ?_
      clear K
      rintro e w3 ⟨rfl, F3, G3, c3, d3, dis3, st3⟩
      have hb3 : Below W.heap.size W w3 := Hb.out.trans (st3.toBelow Hb.out.size (fun b hb => hb.elim (fun h => (PAt.lt Hc.out b h).1) (fun h => (QAt.lt Hd.out b h).1)))
      have hs3 := Hs.out.act rs[j].x (Hin.out.pix j hjr).small
      have C3 := Lib.hid c3
      have D3 := Lib.hid d3
      have Dis3 := Lib.hid dis3
      have Hs3 := Lib.hid hs3
      have B3 := Lib.hid hb3
      clear c3 d3 dis3 hs3 hb3 st3 q0 q1 q2 q3 q4 q5 q6 q7 q8 q9
      go_wp2
      go_roundw
      case rel => exact ⟨j + 1, _, F3, G3, by omega, by go_num, PAt.at C3.out, QAt.at D3.out, Dis3.out, Hs3.out, B3.out⟩
      case measure => simp [intOf]; omega
    · have hp : j = n := by omega
      subst hp
      go_wp2_with fail
      refine (copy_any (PAt.at Hc.out)).mono ?_
      rintro e x1 ⟨p2, D1, rfl, dc1, xb1, xd1⟩
      have Hc1 := Lib.hid (PAt.below Hc.out xb1)
      have Hd1 := Lib.hid (QAt.below Hd.out xb1)
      have Xb1 := Lib.hid xb1
      have Dc1 := Lib.hid dc1
      have Xd1 := Lib.hid xd1
      clear xb1 dc1 xd1
      go_wp2_with fail
      refine (rcopy_any (QAt.at Hd1.out) Hs.out).mono ?_
      rintro e x2 ⟨q2, E1, rfl, ec1, xb2, xe1⟩
      have hXd : ∀ b, F b ∨ G b → ¬ (D1 b ∨ E1 b) := by
        rintro b hb (h | h)
        · have h1 := Xd1.out b h
          rcases hb with hb | hb
          · have := (PAt.lt Hc.out b hb).2; omega
          · have := (QAt.lt Hd.out b hb).2; omega
        · have h1 := xe1 b h
          have h2 := Xb1.out.size
          rcases hb with hb | hb
          · have := (PAt.lt Hc.out b hb).2; omega
          · have := (QAt.lt Hd.out b hb).2; omega
      have hDE : ∀ b, D1 b → ¬ E1 b := fun b h1 h2 => by
        have := xe1 b h2
        have := (Dc1.out.lt b h1).2
        omega
      have Hc2 := Lib.hid (PAt.below Hc1.out xb2)
      have Hd2 := Lib.hid (QAt.below Hd1.out xb2)
      have Dc2 := Lib.hid (PAt.of (Dc1.out.below xb2))
      have Ec2 := Lib.hid (QAt.of ec1)
      have HXd := Lib.hid hXd
      have HDE := Lib.hid hDE
      have Xb2 := Lib.hid (Hb.out.trans ((Xb1.out.trans (xb2.mono Xb1.out.size)).mono Hb.out.size))
      clear xb2 ec1 xe1 hXd hDE Hc1 Hd1 Hc Hd Dc1 Xd1
      go_wp2_with fail
      have K := keysXp Dc2.out
      with_reducible refine K.mono ?_
      clear K
      rintro e yw5 ⟨v5, rfl, ho5, hb5⟩
      obtain ⟨A5, c5, rfl⟩ := own_slice ho5
      have Ho5 := Lib.hid ho5
      have yB5 := Lib.hid hb5
      clear ho5 hb5
      go_wp2_with fail
      have K := keysXq (QAt.below Ec2.out yB5.out)
      with_reducible refine K.mono ?_
      clear K
      rintro e yw6 ⟨v6, rfl, ho6, hb6⟩
      obtain ⟨A6, c6, rfl⟩ := own_slice ho6
      have Ho5' := Lib.hid (own_below Ho5.out hb6)
      have Ho6 := Lib.hid ho6
      have yB6 := Lib.hid (yB5.out.trans (hb6.mono yB5.out.size))
      clear ho6 hb6 Ho5
      go_wp2_with fail
      have K := same_keys _ _ Ho5'.out Ho6.out (keysX_len Dc2.out)
      rw [decide_eq_true rfl] at K
      with_reducible refine K.mono ?_
      clear K
      rintro e yw7 ⟨rfl, hb7⟩
      have yB7 := Lib.hid (yB6.out.trans (hb7.mono yB6.out.size))
      clear hb7 Ho5' Ho6
      go_wp2_with fail
      have K := evXp (PAt.below Dc2.out yB7.out)
      with_reducible refine K.mono ?_
      clear K
      rintro e yw8 ⟨rfl, hb8⟩
      have yB8 := Lib.hid (yB7.out.trans (hb8.mono yB7.out.size))
      clear hb8
      go_wp2_with fail
      have K := evXq (QAt.below Ec2.out yB8.out)
      with_reducible refine K.mono ?_
      clear K
      rintro e yw9 ⟨rfl, hb9⟩
      have yB9 := Lib.hid (yB8.out.trans (hb9.mono yB8.out.size))
      clear hb9
      have Hc3 := Lib.hid (PAt.below Hc2.out yB9.out)
      have Hd3 := Lib.hid (QAt.below Hd2.out yB9.out)
      have Dc3 := Lib.hid (PAt.below Dc2.out yB9.out)
      have Ec3 := Lib.hid (QAt.below Ec2.out yB9.out)
      have Xb3 := Lib.hid (Xb2.out.trans (yB9.out.mono Xb2.out.size))
      clear Hc2 Hd2 Dc2 Ec2 Xb2 yB5 yB6 yB7 yB8 yB9
      go_wp2_with fail
      go_loopw [12] (fun v7 wt => ∃ (j : Nat) (t : Mo.Ca) (D E : Nat → Prop), j ≤ n' ∧ v7 = .int .i64 j ∧ PAt wt W.heap.size (.pointer (some ⟨p, 0, none⟩)) (some s) F ∧ QAt wt W.heap.size (.pointer (some ⟨q, 0, none⟩)) (some s) G ∧ PAt wt W.heap.size (.pointer (some ⟨p2, 0, none⟩)) (some t) D ∧ QAt wt W.heap.size (.pointer (some ⟨q2, 0, none⟩)) (some t) E ∧ (∀ b, F b ∨ G b → ¬ (D b ∨ E b)) ∧ (∀ x, D x → ¬ E x) ∧ Mo.Sm t ∧ Below W.heap.size W wt) (fun v _ => n' - (intOf v).toNat)
      case atStart => exact ⟨0, s, D1, E1, Nat.zero_le _, rfl, Hc3.out, Hd3.out, Dc3.out, Ec3.out, HXd.out, HDE.out, Hs.out, Xb3.out⟩
      case round =>
        clear Hc3 Hd3 Dc3 Ec3 Xb3 HXd HDE
        obtain ⟨i, t, D, E, hj2, rfl, hc, hd, hdc, hec, hxd, hde, ht, hbt⟩ := hrel
        have Gc := Lib.hid hc
        have Gd := Lib.hid hd
        have Gdc := Lib.hid hdc
        have Gec := Lib.hid hec
        have Gxd := Lib.hid hxd
        have Gde := Lib.hid hde
        have Gt := Lib.hid ht
        have Gb := Lib.hid hbt
        clear hc hd hdc hec hxd hde ht hbt
        by_cases hlt2 : i < n'
        · obtain ⟨ad, rfl⟩ := Hin'.out.there hlt2
          have hjr : i < rs'.length := by omega
          obtain ⟨q0, q1, q2', q3, q4, q5, q6, q7, q8, q9⟩ := (Hin'.out.below Gb.out).call i hjr
          go_wp2_with fail
          have K := step_any Gdc.out Gec.out Gde.out (SmX.some Gt.out) rs'[i].x rs'[i].A rs'[i].n rs'[i].c ((Hin'.out.pix i hjr).below Gb.out) (Hin'.out.pix i hjr).low
          unfold clv at K
          with_reducible refine K.mono ?_
          clear K
          rintro e w3 ⟨rfl, D3, E3, c3, d3, dis3, st3⟩
          have hb3 : Below W.heap.size W w3 := Gb.out.trans (st3.toBelow Gb.out.size (fun b hb => hb.elim (fun h => (PAt.lt Gdc.out b h).1) (fun h => (QAt.lt Gec.out b h).1)))
          have hs3 := Gt.out.act rs'[i].x (Hin'.out.pix i hjr).small
          obtain ⟨gc3, gd3, gx3⟩ := pair_stay Gc.out Gd.out Gxd.out (fun b hb => hb.elim (fun h => PAt.notPix Gdc.out b h) (fun h => QAt.notPix Gec.out b h)) st3
          have C3 := Lib.hid c3
          have D3' := Lib.hid d3
          have Dis3 := Lib.hid dis3
          have Hs3 := Lib.hid hs3
          have B3 := Lib.hid hb3
          have Gc3 := Lib.hid gc3
          have Gd3 := Lib.hid gd3
          have Gx3 := Lib.hid gx3
          clear c3 d3 dis3 hs3 hb3 st3 gc3 gd3 gx3 q0 q1 q2' q3 q4 q5 q6 q7 q8 q9
          go_wp2
          go_roundw
          case rel => exact ⟨i + 1, _, D3, E3, by omega, by go_num, Gc3.out, Gd3.out, C3.out, D3'.out, Gx3.out, Dis3.out, Hs3.out, B3.out⟩
          case measure => simp [intOf]; omega
        · have hp2 : i = n' := by omega
          subst hp2
          go_wp2_with fail
          have K := keysXp Gc.out
          with_reducible refine K.mono ?_
          clear K
          rintro e zw5 ⟨v5, rfl, ho5, hb5⟩
          obtain ⟨A5, c5, rfl⟩ := own_slice ho5
          have Ho5 := Lib.hid ho5
          have zB5 := Lib.hid hb5
          clear ho5 hb5
          go_wp2_with fail
          have K := keysXq (QAt.below Gd.out zB5.out)
          with_reducible refine K.mono ?_
          clear K
          rintro e zw6 ⟨v6, rfl, ho6, hb6⟩
          obtain ⟨A6, c6, rfl⟩ := own_slice ho6
          have Ho5' := Lib.hid (own_below Ho5.out hb6)
          have Ho6 := Lib.hid ho6
          have zB6 := Lib.hid (zB5.out.trans (hb6.mono zB5.out.size))
          clear ho6 hb6 Ho5
          go_wp2_with fail
          have K := same_keys _ _ Ho5'.out Ho6.out (keysX_len Gc.out)
          rw [decide_eq_true rfl] at K
          with_reducible refine K.mono ?_
          clear K
          rintro e zw7 ⟨rfl, hb7⟩
          have zB7 := Lib.hid (zB6.out.trans (hb7.mono zB6.out.size))
          clear hb7 Ho5' Ho6
          go_wp2_with fail
          have K := evXp (PAt.below Gc.out zB7.out)
          with_reducible refine K.mono ?_
          clear K
          rintro e zw8 ⟨rfl, hb8⟩
          have zB8 := Lib.hid (zB7.out.trans (hb8.mono zB7.out.size))
          clear hb8
          go_wp2_with fail
          have K := evXq (QAt.below Gd.out zB8.out)
          with_reducible refine K.mono ?_
          clear K
          rintro e zw9 ⟨rfl, hb9⟩
          have zB9 := Lib.hid (zB8.out.trans (hb9.mono zB8.out.size))
          clear hb9
          go_wp2_with fail
          refine (example_any zw9).mono ?_
          rintro e w10 ⟨rfl, hb10⟩
          go_wp2
          go_ret
          have hb := Gb.out.trans (zB9.out.mono Gb.out.size)
          exact ⟨rfl, hb.trans (hb10.mono hb.size)⟩
end Go.Proofs.Ytpdjfcnlbaaogaa
