/- CacheValues. -/
import Derived.Test.YtpdjfcnlbaaogaaVa
namespace Go.Proofs.Ytpdjfcnlbaaogaa
open Go.RowKit

set_option maxHeartbeats 1000000 in
theorem Below.drewM {B : Nat} {w w' : World} (h : Below B w w') (n : Nat) : Below B w (w'.drewN n) := ⟨h.os, h.tape, h.output, h.size, h.block⟩

theorem get_in {w : World} {B p : Nat} {s : Mo.Ca} {F : Nat → Prop} (h : CAt w B p s F) (k : Mo.Ky) (hs : Mo.Sm s) : Calls Try.prog 19 #[.pointer (some ⟨p, 0, none⟩), .agg #[.int .i64 k.node, .int .i64 k.stamp, .int .i64 k.level, .int .i64 k.x, .int .i64 k.y]] w fun e w' => ∃ (im : Mo.Im) (A : Option Addr) (n c : Nat), e = .returned (.tuple #[.agg #[.int .i64 im.w, .int .i64 im.h, .slice A n c], .bool (Mo.look k s.l).isSome]) ∧ PixIn w' A n im.pix ∧ (∀ i, Mo.look k s.l = some i → im = i) ∧ ∃ F', CAt w' B p (Mo.get k s) F' ∧ Stp w w' F F' := by
  have K := get_any h k hs
  unfold kv at K
  refine K.mono ?_
  rintro e w' ⟨⟨v', b, rfl, rfl, hi, hz⟩, hF⟩
  cases hk : Mo.look k s.l with
  | none =>
    have := hz hk
    subst this
    exact ⟨im0, none, 0, 0, rfl, ⟨rfl, by omega, fun _ => rfl, fun _ h => by simp at h⟩, fun i h => by simp at h, hF⟩
  | some i =>
    obtain ⟨A, n, c, rfl, hp⟩ := (hi i hk).read (hs.found hk)
    exact ⟨i, A, n, c, rfl, hp, fun j h => by simpa using h, hF⟩

theorem three {w' : World} {a : Nat} {b : Addr} {x y z x' y' z' : Value} (h : w'.heap[a]? = some (.cells #[x, y, z] 32 (0, 0))) (h0 : w'.cell? ⟨b.block, b.off + 7, none⟩ = some x') (h1 : w'.cell? ⟨b.block, b.off + 8, none⟩ = some y') (h2 : w'.cell? ⟨b.block, b.off + 9, none⟩ = some z') :
    w'.cell? ⟨a, 0, none⟩ = some x ∧ w'.cell? ⟨a, 1, none⟩ = some y ∧ w'.cell? ⟨a, 2, none⟩ = some z ∧ w'.cell? ⟨b.block, b.off + 7, none⟩ = some x' ∧ w'.cell? ⟨b.block, b.off + 8, none⟩ = some y' ∧ w'.cell? ⟨b.block, b.off + 9, none⟩ = some z' :=
  ⟨(blk3 h).1, (blk3 h).2.1, (blk3 h).2.2.1, h0, h1, h2⟩

theorem CIn.callR {w : World} {ad : Addr} {n : Nat} {rs : List Row} (h : CIn w (some ad) n rs) (j : Nat) (hj : j < rs.length) :
    w.cell? (ad.add (j * 10)) = some (.int .i64 (rowAt rs j).x.kind) ∧ w.cell? ⟨(ad.add (j * 10)).block, (ad.add (j * 10)).off + 1, none⟩ = some (.int .i64 (rowAt rs j).x.n) ∧
    w.cell? ⟨(ad.add (j * 10)).block, (ad.add (j * 10)).off + 2, none⟩ = some (.int .i64 (rowAt rs j).x.k.node) ∧ w.cell? ⟨(ad.add (j * 10)).block, (ad.add (j * 10)).off + 3, none⟩ = some (.int .i64 (rowAt rs j).x.k.stamp) ∧
    w.cell? ⟨(ad.add (j * 10)).block, (ad.add (j * 10)).off + 4, none⟩ = some (.int .i64 (rowAt rs j).x.k.level) ∧ w.cell? ⟨(ad.add (j * 10)).block, (ad.add (j * 10)).off + 5, none⟩ = some (.int .i64 (rowAt rs j).x.k.x) ∧
    w.cell? ⟨(ad.add (j * 10)).block, (ad.add (j * 10)).off + 6, none⟩ = some (.int .i64 (rowAt rs j).x.k.y) ∧ w.cell? ⟨(ad.add (j * 10)).block, (ad.add (j * 10)).off + 7, none⟩ = some (.int .i64 (rowAt rs j).x.i.w) ∧
    w.cell? ⟨(ad.add (j * 10)).block, (ad.add (j * 10)).off + 8, none⟩ = some (.int .i64 (rowAt rs j).x.i.h) ∧ w.cell? ⟨(ad.add (j * 10)).block, (ad.add (j * 10)).off + 9, none⟩ = some (.slice (rowAt rs j).A (rowAt rs j).n (rowAt rs j).c) ∧ PixIn w (rowAt rs j).A (rowAt rs j).n (rowAt rs j).x.i.pix := by
  simp only [rowAt_get rs j hj]
  obtain ⟨a0, a1, a2, a3, a4, a5, a6, a7, a8, a9⟩ := h.call j hj
  exact ⟨a0, a1, a2, a3, a4, a5, a6, a7, a8, a9, h.pix j hj⟩

set_option maxHeartbeats 16000000 in
set_option maxRecDepth 20000 in
theorem values_walk {W : World} {A : Option Addr} {n cap : Nat} {rs : List Row} (b : Int) (h : CIn W A n rs) : Calls Try.prog 5 #[.int .i64 b, .slice A n cap] W fun e w' => e = .returned (.bool true) ∧ Below W.heap.size W w' := by
  have hlen := h.len
  have hroom := h.room
  have Hin := Lib.hid h
  clear h
  go_enter Try.func5, Try.ntmps5
  go_wp2_with fail
  refine (new_any b W W.heap.size (Nat.le_refl _)).mono ?_
  rintro e w1 ⟨p, F1, rfl, c1, b1, _⟩
  have C1 := Lib.hid c1
  have B1 := Lib.hid b1
  clear c1 b1
  go_wp2_with fail
  go_loopw [0, 6] (fun v0 v6 wr => ∃ (j : Nat) (bud : Int) (s : Mo.Ca) (F : Nat → Prop), j ≤ n ∧ v6 = .int .i64 j ∧ v0 = .int .i64 bud ∧ CAt wr W.heap.size p s F ∧ Mo.Sm s ∧ Kn rs j s ∧ s.bud = Mo.lim bud ∧ Below W.heap.size W wr) (fun _ v _ => n - (intOf v).toNat)
  case atStart => exact ⟨0, b, Mo.new b, F1, Nat.zero_le _, rfl, rfl, C1.out, Mo.Sm.new b, Kn.new _ _, rfl, B1.out⟩
  case round =>
    obtain ⟨j, bud, s, F, hj, rfl, rfl, hc, hs, hkn, hbud, hb⟩ := hrel
    have Hc := Lib.hid hc
    have Hs := Lib.hid hs
    have Hkn := Lib.hid hkn
    have Hbud := Lib.hid hbud
    have Hb := Lib.hid hb
    clear hc hs hkn hbud hb
    by_cases hlt : j < n
    · obtain ⟨ad, rfl⟩ := Hin.out.there hlt
      have hjr : j < rs.length := by omega
      have hra := rowAt_get rs j hjr
      have hpix := Hin.out.pix j hjr
      have hcall := fun (w' : World) (hb : Below W.heap.size W w') => (Hin.out.below hb).call j hjr
      rw [← hra] at hpix
      simp only [← hra] at hcall
      clear hra
      obtain ⟨r, hr⟩ : ∃ r, r = rowAt rs j := ⟨_, rfl⟩
      rw [← hr] at hpix
      simp only [← hr] at hcall
      have Hr := Lib.hid hr
      have Hpix := Lib.hid hpix
      have Hcall := Lib.hid hcall
      clear hr hpix hcall
      obtain ⟨q0, q1, q2, q3, q4, q5, q6, q7, q8, q9⟩ := Hcall.out _ Hb.out
      go_wp2_with fail
      have K := do_any Hc.out r.x r.A r.n r.c (Hpix.out.below Hb.out) Hs.out
      unfold clv at K
      with_reducible refine K.mono ?_
      clear K
      rintro e w2 ⟨rfl, F2, c2, st2⟩
      have hb2 : Below W.heap.size W w2 := Hb.out.trans (Hc.out.toBelow st2)
      have hnb := Mo.act_bud r.x s
      rw [Hbud.out] at hnb
      have C2 := Lib.hid c2
      have B2 := Lib.hid hb2
      clear c2 st2 hb2 q0 q1 q2 q3 q4 q5 q6 q7 q8 q9
      obtain ⟨q0, q1, q2, q3, q4, q5, q6, q7, q8, q9⟩ := Hcall.out _ B2.out
      have hs2 := Hs.out.act r.x Hpix.out.small
      have hkn2 := Hkn.out.act Hc.out.1
      rw [← Hr.out] at hkn2
      have hpl : r.x.kind = 1 → Mo.look r.x.k (Mo.act r.x s).l = if s.bud = 0 then none else some r.x.i := by
        intro h1
        unfold Mo.act
        rw [if_neg (by omega), if_pos h1]
        exact put_look _ _ s Hc.out.1
      rw [Hbud.out] at hpl
      obtain ⟨s2, hs2e⟩ : ∃ s2, s2 = Mo.act r.x s := ⟨_, rfl⟩
      rw [← hs2e] at C2 hnb hs2 hkn2 hpl
      have Hs2 := Lib.hid hs2
      have Hkn2 := Lib.hid hkn2
      have Hpl := Lib.hid hpl
      have Hnb := Lib.hid hnb
      clear hs2 hs2e hkn2 hpl hnb
      by_cases hk4 : r.x.kind = 4
      · have hb2 : s2.bud = Mo.lim r.x.n := by rw [Hnb.out, if_pos hk4]
        have Hb2 := Lib.hid hb2
        clear hb2
        go_wp2_with fail
        go_roundw
        case rel => exact ⟨j + 1, _, s2, F2, by omega, by go_num, rfl, C2.out, Hs2.out, Hkn2.out, Hb2.out, B2.out⟩
        case measure => simp [intOf]; omega
      have hb2 : s2.bud = Mo.lim bud := by rw [Hnb.out, if_neg hk4]
      have Hb2 := Lib.hid hb2
      clear hb2
      by_cases hk1 : r.x.kind = 1
      · have hpl := Hpl.out hk1
        have hkg2 : Kn rs (j + 1) (Mo.get r.x.k s2) := Hkn2.out.get _
        have hsg2 : Mo.Sm (Mo.get r.x.k s2) := Hs2.out.get _
        have hbg2 : (Mo.get r.x.k s2).bud = Mo.lim bud := by rw [← Hb2.out]; unfold Mo.get; split <;> rfl
        have Hkg2 := Lib.hid hkg2
        have Hsg2 := Lib.hid hsg2
        have Hbg2 := Lib.hid hbg2
        clear hkg2 hsg2 hbg2
        by_cases hb1 : 1 ≤ bud
        · have hlim : ¬ Mo.lim bud = 0 := by unfold Mo.lim; omega
          rw [if_neg hlim] at hpl
          have hd1 : decide (1 ≤ bud) = true := decide_eq_true hb1
          have Hp := Lib.hid hpl
          clear hpl hlim
          go_wp2_with fail
          have K := get_in C2.out r.x.k Hs2.out
          rw [Hp.out] at K
          with_reducible refine K.mono ?_
          clear K
          rintro e w3 ⟨im, A3, n3, c3, rfl, hp3, him, F3, d3, st3⟩
          obtain rfl := him _ rfl
          simp only [Option.isSome_some]
          have hb3 : Below W.heap.size W w3 := B2.out.trans (C2.out.toBelow st3)
          obtain ⟨W3, hW3⟩ : ∃ W3, W3 = w3.alloc (.cells #[.int .i64 r.x.i.w, .int .i64 r.x.i.h, .slice A3 n3 c3] 32) := ⟨_, rfl⟩
          have hbA : Below w3.heap.size w3 W3 := by rw [hW3]; exact Below.alloc (Below.refl _ _) (Nat.le_refl _) _
          have Hn := Lib.hid (show W3.heap[w3.heap.size]? = some (.cells #[.int .i64 r.x.i.w, .int .i64 r.x.i.h, .slice A3 n3 c3] 32 (0, 0)) by rw [hW3]; exact blk_new w3 _)
          have D3 := Lib.hid (d3.below hbA)
          have B3 := Lib.hid (hb3.trans (hbA.mono hb3.size))
          have HW3 := Lib.hid hW3
          have Hp3 := Lib.hid (hp3.below hbA)
          clear d3 st3 hb3 hbA hW3 hp3 q0 q1 q2 q3 q4 q5 q6 q7 q8 q9
          go_wp2_with fail
          rw [← HW3.out]
          obtain ⟨z0, z1, z2, _⟩ := blk3 Hn.out
          obtain ⟨q0, q1, q2, q3, q4, q5, q6, q7, q8, q9⟩ := Hcall.out _ B3.out
          go_region_held3 (fun w' => w'.cell? ⟨w3.heap.size, 0, none⟩ = some (.int .i64 r.x.i.w) ∧ w'.cell? ⟨w3.heap.size, 1, none⟩ = some (.int .i64 r.x.i.h) ∧ w'.cell? ⟨w3.heap.size, 2, none⟩ = some (.slice A3 n3 c3) ∧ w'.cell? ⟨(ad.add (j * 10)).block, (ad.add (j * 10)).off + 7, none⟩ = some (.int .i64 r.x.i.w) ∧ w'.cell? ⟨(ad.add (j * 10)).block, (ad.add (j * 10)).off + 8, none⟩ = some (.int .i64 r.x.i.h) ∧ w'.cell? ⟨(ad.add (j * 10)).block, (ad.add (j * 10)).off + 9, none⟩ = some (.slice r.A r.n r.c))
            (first
              | go_keep
              | exact Hk4.out)
            ((go_at_call 20
              have K := same_im (w := W3.drew) r.x.i r.x.i ⟨A3, n3, c3, rfl, Hp3.out.drew⟩ ⟨r.A, r.n, r.c, rfl, (Hpix.out.below B3.out).drew⟩
              rw [decide_eq_true rfl] at K
              with_reducible refine K.mono ?_
              clear K
              rintro e w4 ⟨rfl, hb4'⟩
              have hb4 : Below W3.heap.size W3 w4 := (Below.drew (Below.refl _ _)).trans hb4'
              have B4 := Lib.hid (B3.out.trans (hb4.mono B3.out.size))
              have hc4 := Hcall.out _ B4.out
              have Hk4 := Lib.hid (three (blk_in hb4 Hn.out) hc4.2.2.2.2.2.2.2.1 hc4.2.2.2.2.2.2.2.2.1 hc4.2.2.2.2.2.2.2.2.2)
              have D4 := Lib.hid (D3.out.below hb4)
              have Hq4 := Lib.hid hc4
              clear hb4 hb4' hc4))
          clear q0 q1 q2 q3 q4 q5 q6 q7 q8 q9
          obtain ⟨q0, q1, q2, q3, q4, q5, q6, q7, q8, q9⟩ := Hq4.out
          go_wp2_with fail
          go_roundw
          case rel => exact ⟨j + 1, _, Mo.get r.x.k s2, F3, by omega, by go_num, rfl, D4.out, Hsg2.out, Hkg2.out, Hbg2.out, B4.out⟩
          case measure => simp [intOf]; omega
        · have hlim : Mo.lim bud = 0 := by unfold Mo.lim; omega
          rw [if_pos hlim] at hpl
          have hd1 : decide (1 ≤ bud) = false := decide_eq_false hb1
          have Hp := Lib.hid hpl
          clear hpl hlim
          go_wp2_with fail
          have K := get_in C2.out r.x.k Hs2.out
          rw [Hp.out] at K
          with_reducible refine K.mono ?_
          clear K
          rintro e w3 ⟨im, A3, n3, c3, rfl, hp3, _, F3, d3, st3⟩
          simp only [Option.isSome_none]
          have hb3 : Below W.heap.size W w3 := B2.out.trans (C2.out.toBelow st3)
          obtain ⟨W3, hW3⟩ : ∃ W3, W3 = w3.alloc (.cells #[.int .i64 im.w, .int .i64 im.h, .slice A3 n3 c3] 32) := ⟨_, rfl⟩
          have hbA : Below w3.heap.size w3 W3 := by rw [hW3]; exact Below.alloc (Below.refl _ _) (Nat.le_refl _) _
          have D3 := Lib.hid (d3.below hbA)
          have B3 := Lib.hid (hb3.trans (hbA.mono hb3.size))
          have HW3 := Lib.hid hW3
          clear d3 st3 hb3 hbA hW3 hp3 q0 q1 q2 q3 q4 q5 q6 q7 q8 q9
          go_wp2_with fail
          rw [← HW3.out]
          obtain ⟨q0, q1, q2, q3, q4, q5, q6, q7, q8, q9⟩ := Hcall.out _ B3.out
          go_quiet (fail)
          go_wp2_with fail
          go_roundw
          case rel => exact ⟨j + 1, _, Mo.get r.x.k s2, F3, by omega, by go_num, rfl, D3.out.below (Below.drewM (Below.refl _ _) _), Hsg2.out, Hkg2.out, Hbg2.out, Below.drewM B3.out _⟩
          case measure => simp [intOf]; omega
      by_cases hk0 : r.x.kind = 0
      · have hkg2 : Kn rs (j + 1) (Mo.get r.x.k s2) := Hkn2.out.get _
        have hsg2 : Mo.Sm (Mo.get r.x.k s2) := Hs2.out.get _
        have hbg2 : (Mo.get r.x.k s2).bud = Mo.lim bud := by rw [← Hb2.out]; unfold Mo.get; split <;> rfl
        have Hkg2 := Lib.hid hkg2
        have Hsg2 := Lib.hid hsg2
        have Hbg2 := Lib.hid hbg2
        clear hkg2 hsg2 hbg2
        have he := eql29
        go_wp2_with fail
        have K := get_in C2.out r.x.k Hs2.out
        with_reducible refine K.mono ?_
        clear K
        rintro e w3 ⟨im, A3, n3, c3, rfl, hp3, him, F3, d3, st3⟩
        obtain ⟨okb, hokb⟩ : ∃ okb, okb = (Mo.look r.x.k s2.l).isSome := ⟨_, rfl⟩
        rw [← hokb]
        have Hokb := Lib.hid hokb
        have Him := Lib.hid him
        have hb3 : Below W.heap.size W w3 := B2.out.trans (C2.out.toBelow st3)
        obtain ⟨W3, hW3⟩ : ∃ W3, W3 = w3.alloc (.cells #[.int .i64 im.w, .int .i64 im.h, .slice A3 n3 c3] 32) := ⟨_, rfl⟩
        have hbA : Below w3.heap.size w3 W3 := by rw [hW3]; exact Below.alloc (Below.refl _ _) (Nat.le_refl _) _
        have Hn := Lib.hid (show W3.heap[w3.heap.size]? = some (.cells #[.int .i64 im.w, .int .i64 im.h, .slice A3 n3 c3] 32 (0, 0)) by rw [hW3]; exact blk_new w3 _)
        have D3 := Lib.hid (d3.below hbA)
        have B3 := Lib.hid (hb3.trans (hbA.mono hb3.size))
        have HW3 := Lib.hid hW3
        have Hp3 := Lib.hid (hp3.below hbA)
        clear d3 st3 hb3 hbA hW3 hp3 hokb him q0 q1 q2 q3 q4 q5 q6 q7 q8 q9
        go_wp2_with fail
        rw [← HW3.out]
        go_loopw [11, 12] (fun v11 v12 wb => ∃ t : Nat, t ≤ j ∧ v12 = .int .i64 t ∧ v11 = .int .i64 (lastPut rs r.x.k t) ∧ Below W3.heap.size W3 wb) (fun _ v _ => j - (intOf v).toNat)
        case atStart => exact ⟨0, Nat.zero_le _, rfl, rfl, Below.refl _ _⟩
        case round =>
          obtain ⟨t, htj, rfl, rfl, hbb⟩ := hrel
          have Bb := Lib.hid (B3.out.trans (hbb.mono B3.out.size))
          have Hbb := Lib.hid hbb
          clear hbb
          by_cases hlt2 : t < j
          · have htr : t < rs.length := by omega
            obtain ⟨q0, q1, q2, q3, q4, q5, q6, q7, q8, q9⟩ := Hcall.out _ Bb.out
            obtain ⟨y, hy⟩ : ∃ y, y = rowAt rs t := ⟨_, rfl⟩
            have hct := (Hin.out.below Bb.out).callR t htr
            rw [← hy] at hct
            obtain ⟨r0, r1, r2, r3, r4, r5, r6, r7, r8, r9, _⟩ := hct
            by_cases hy1 : y.x.kind = 1
            · by_cases hyk : y.x.k = r.x.k
              · have hlp : lastPut rs r.x.k (t + 1) = (t : Int) := by rw [lastPut, if_pos ⟨by rw [← hy]; exact hy1, by rw [← hy]; exact hyk⟩]
                have Hlp := Lib.hid hlp
                have Hy := Lib.hid hy
                have hd : decide (y.x.k = r.x.k) = true := decide_eq_true hyk
                clear hlp hy hyk
                go_wp2_with fail
                go_quiet (fail)
                go_wp2_with fail
                go_roundw
                case rel => exact ⟨t + 1, by omega, by go_num, by rw [Hlp.out], Below.drewM Hbb.out _⟩
                case measure => simp [intOf]; omega
              · have hlp : lastPut rs r.x.k (t + 1) = lastPut rs r.x.k t := by rw [lastPut, if_neg]; rw [← hy]; exact fun h => hyk h.2
                have Hlp := Lib.hid hlp
                have Hy := Lib.hid hy
                have hd : decide (y.x.k = r.x.k) = false := decide_eq_false hyk
                clear hlp hy hyk
                go_wp2_with fail
                go_quiet (fail)
                go_wp2_with fail
                go_roundw
                case rel => exact ⟨t + 1, by omega, by go_num, by rw [Hlp.out], Below.drewM Hbb.out _⟩
                case measure => simp [intOf]; omega
            · have hlp : lastPut rs r.x.k (t + 1) = lastPut rs r.x.k t := by rw [lastPut, if_neg]; rw [← hy]; exact fun h => hy1 h.1
              have hd1 : decide (y.x.kind = 1) = false := decide_eq_false hy1
              have hd2 : (y.x.kind == 1) = false := by simp [hy1]
              have Hlp := Lib.hid hlp
              have Hy := Lib.hid hy
              clear hlp hy
              go_wp2_with fail
              go_quiet (fail)
              go_wp2_with fail
              go_roundw
              case rel => exact ⟨t + 1, by omega, by go_num, by rw [Hlp.out], Below.drewM Hbb.out _⟩
              case measure => simp [intOf]; omega
          · have htj' : t = j := by omega
            subst htj'
            have Hn2 := Lib.hid (blk_in Hbb.out Hn.out)
            have D4 := Lib.hid (D3.out.below Hbb.out)
            cases hl : Mo.look r.x.k s2.l with
            | none =>
              have hok : okb = false := by rw [Hokb.out, hl]; rfl
              subst hok
              have Hl := Lib.hid hl
              clear hl
              go_wp2_with fail
              go_quiet (fail)
              go_wp2_with fail
              go_roundw
              case rel => exact ⟨t + 1, _, Mo.get r.x.k s2, F3, by omega, by go_num, rfl, D4.out.below (Below.drewM (Below.refl _ _) _), Hsg2.out, Hkg2.out, Hbg2.out, Below.drewM Bb.out _⟩
              case measure => simp [intOf]; omega
            | some i =>
              have hok : okb = true := by rw [Hokb.out, hl]; rfl
              subst hok
              obtain rfl := Him.out _ hl
              obtain ⟨u, hu1, hu2, hu3⟩ := Hkn2.out _ (Mo.look_mem hl)
              have hlp : lastPut rs r.x.k (t + 1) = lastPut rs r.x.k t := by rw [lastPut, if_neg]; rw [← Hr.out]; exact fun h => hk1 h.1
              simp only at hu2 hu3
              rw [hlp] at hu2
              have Hl := Lib.hid hl
              have Hlp := Lib.hid hlp
              have Hu3 := Lib.hid hu3
              clear hl hlp hu3
              have hun : u < n := by omega
              have hd3 : decide ((u : Int) < 0) = false := decide_eq_false (by omega)
              have hur : u < rs.length := by omega
              obtain ⟨y, hy⟩ : ∃ y, y = rowAt rs u := ⟨_, rfl⟩
              have hct := (Hin.out.below Bb.out).callR u hur
              rw [← hy] at hct
              obtain ⟨r0, r1, r2, r3, r4, r5, r6, r7, r8, r9, hpy⟩ := hct
              have Hpy := Lib.hid hpy
              have hu3 := Hu3.out
              rw [← hy] at hu3
              have Hyi := Lib.hid hu3
              have Hy := Lib.hid hy
              clear hpy hy hu3
              obtain ⟨z0, z1, z2, _⟩ := blk3 Hn2.out
              go_wp2_with fail
              go_region_held3 (fun w' => w'.cell? ⟨w3.heap.size, 0, none⟩ = some (.int .i64 im.w) ∧ w'.cell? ⟨w3.heap.size, 1, none⟩ = some (.int .i64 im.h) ∧ w'.cell? ⟨w3.heap.size, 2, none⟩ = some (.slice A3 n3 c3) ∧ w'.cell? ⟨(ad.add (u * 10)).block, (ad.add (u * 10)).off + 7, none⟩ = some (.int .i64 y.x.i.w) ∧ w'.cell? ⟨(ad.add (u * 10)).block, (ad.add (u * 10)).off + 8, none⟩ = some (.int .i64 y.x.i.h) ∧ w'.cell? ⟨(ad.add (u * 10)).block, (ad.add (u * 10)).off + 9, none⟩ = some (.slice y.A y.n y.c))
                (first
                  | go_keep
                  | exact Hk4.out)
                ((go_at_call 20
                  have K := same_im (w := wr.drew) im y.x.i ⟨A3, n3, c3, rfl, (Hp3.out.below Hbb.out).drew⟩ ⟨y.A, y.n, y.c, rfl, Hpy.out.drew⟩
                  rw [decide_eq_true Hyi.out.symm] at K
                  with_reducible refine K.mono ?_
                  clear K
                  rintro e w4 ⟨rfl, hb4'⟩
                  have hb4 : Below wr.heap.size wr w4 := (Below.drew (Below.refl _ _)).trans hb4'
                  have B4 := Lib.hid (Bb.out.trans (hb4.mono Bb.out.size))
                  have Hk4 := Lib.hid (three (blk_in hb4 Hn2.out) ((hb4.cell (World.block_lt_of_cell? wr _ r7)).trans r7) ((hb4.cell (World.block_lt_of_cell? wr _ r8)).trans r8) ((hb4.cell (World.block_lt_of_cell? wr _ r9)).trans r9))
                  have D5 := Lib.hid (D4.out.below hb4)
                  clear hb4 hb4'))
              go_wp2_with fail
              go_roundw
              case rel => exact ⟨t + 1, _, Mo.get r.x.k s2, F3, by omega, by go_num, rfl, D5.out, Hsg2.out, Hkg2.out, Hbg2.out, B4.out⟩
              case measure => simp [intOf]; omega
      · go_wp2_with fail
        go_roundw
        case rel => exact ⟨j + 1, _, s2, F2, by omega, by go_num, rfl, C2.out, Hs2.out, Hkn2.out, Hb2.out, B2.out⟩
        case measure => simp [intOf]; omega
    · have hp : j = n := by omega
      subst hp
      go_wp2_with fail
      refine (example_any wr).mono ?_
      rintro e w2 ⟨rfl, hb2⟩
      go_wp2
      go_ret
      exact ⟨rfl, Hb.out.trans (hb2.mono Hb.out.size)⟩
end Go.Proofs.Ytpdjfcnlbaaogaa
