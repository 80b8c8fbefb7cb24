/- CacheBudgets. -/
import Derived.Test.YtpdjfcnlbaaogaaOp
namespace Go.Proofs.Ytpdjfcnlbaaogaa
open Go.RowKit

theorem CIn.below {w w' : World} {A : Option Addr} {n : Nat} {rs : List Row} (h : CIn w A n rs) (hb : Below w.heap.size w w') : CIn w' A n rs :=
  ⟨h.len, h.room, h.none0, fun ad ha j hj t u hu => by
    have := h.cell ad ha j hj t u hu
    exact (hb.cell (World.block_lt_of_cell? w _ this)).trans this, fun j hj => (h.pix j hj).below hb⟩
theorem CIn.there {w : World} {A : Option Addr} {n : Nat} {rs : List Row} (h : CIn w A n rs) {j : Nat} (hj : j < n) : ∃ ad, A = some ad := by
  cases A with
  | none => have := h.none0 rfl; omega
  | some a => exact ⟨a, rfl⟩
theorem CIn.call {w : World} {ad : Addr} {n : Nat} {rs : List Row} (h : CIn w (some ad) n rs) (j : Nat) (hj : j < rs.length) :
    w.cell? (ad.add (j * 10)) = some (.int .i64 rs[j].x.kind) ∧ w.cell? ⟨(ad.add (j * 10)).block, (ad.add (j * 10)).off + 1, none⟩ = some (.int .i64 rs[j].x.n) ∧
    w.cell? ⟨(ad.add (j * 10)).block, (ad.add (j * 10)).off + 2, none⟩ = some (.int .i64 rs[j].x.k.node) ∧ w.cell? ⟨(ad.add (j * 10)).block, (ad.add (j * 10)).off + 3, none⟩ = some (.int .i64 rs[j].x.k.stamp) ∧
    w.cell? ⟨(ad.add (j * 10)).block, (ad.add (j * 10)).off + 4, none⟩ = some (.int .i64 rs[j].x.k.level) ∧ w.cell? ⟨(ad.add (j * 10)).block, (ad.add (j * 10)).off + 5, none⟩ = some (.int .i64 rs[j].x.k.x) ∧
    w.cell? ⟨(ad.add (j * 10)).block, (ad.add (j * 10)).off + 6, none⟩ = some (.int .i64 rs[j].x.k.y) ∧ w.cell? ⟨(ad.add (j * 10)).block, (ad.add (j * 10)).off + 7, none⟩ = some (.int .i64 rs[j].x.i.w) ∧
    w.cell? ⟨(ad.add (j * 10)).block, (ad.add (j * 10)).off + 8, none⟩ = some (.int .i64 rs[j].x.i.h) ∧ w.cell? ⟨(ad.add (j * 10)).block, (ad.add (j * 10)).off + 9, none⟩ = some (.slice rs[j].A rs[j].n rs[j].c) := by
  have hc := h.cell ad rfl j hj
  have g := fun t u (ht : 0 < t) (hu : (rs[j].cells)[t]? = some u) => (congrArg w.cell? (add_next ad (j * 10) t ht)).symm.trans (hc t u hu)
  exact ⟨hc 0 _ rfl, g 1 _ (by omega) rfl, g 2 _ (by omega) rfl, g 3 _ (by omega) rfl, g 4 _ (by omega) rfl, g 5 _ (by omega) rfl, g 6 _ (by omega) rfl, g 7 _ (by omega) rfl, g 8 _ (by omega) rfl, g 9 _ (by omega) rfl⟩

theorem PixIn.small {w : World} {A : Option Addr} {n : Nat} {i : Mo.Im} (h : PixIn w A n i.pix) : Mo.Small i := by
  unfold Mo.Small
  rw [h.len]
  exact h.room

namespace Mo
theorem act_bud (x : Cl) (s : Ca) : (act x s).bud = if x.kind = 4 then lim x.n else s.bud := by
  unfold act
  by_cases h0 : x.kind = 0
  · rw [if_pos h0, if_neg (by omega)]; unfold Mo.get; split <;> rfl
  rw [if_neg h0]
  by_cases h1 : x.kind = 1
  · rw [if_pos h1, if_neg (by omega)]; unfold Mo.put; split <;> rfl
  rw [if_neg h1]
  by_cases h2 : x.kind = 2
  · rw [if_pos h2, if_neg (by omega)]; rfl
  rw [if_neg h2]
  by_cases h3 : x.kind = 3
  · rw [if_pos h3, if_neg (by omega)]; rfl
  rw [if_neg h3]
  by_cases h4 : x.kind = 4
  · rw [if_pos h4, if_pos h4]; rfl
  rw [if_neg h4, if_neg h4]
end Mo

set_option maxHeartbeats 1000000 in
theorem budgets_walk {W : World} {A : Option Addr} {n cap : Nat} {rs : List Row} (b : Int) (h : CIn W A n rs) : Calls Try.prog 4 #[.int .i64 b, .slice A n cap] W fun e w' => e = .returned (.bool true) ∧ Below W.heap.size W w' := by
  have hlen := h.len
  have hroom := h.room
  have Hin := Lib.hid h
  clear h
  go_enter Try.func4, Try.ntmps4
  go_wp2_with fail
  refine (new_any b W W.heap.size (Nat.le_refl _)).mono ?_
  rintro e w1 ⟨p, F1, rfl, c1, b1, _⟩
  have C1 := Lib.hid c1
  have B1 := Lib.hid b1
  clear c1 b1
  go_wp2_with fail
  go_loopw [0, 6] (fun v0 v6 wr => ∃ (j : Nat) (bud : Int) (s : Mo.Ca) (F : Nat → Prop), j ≤ n ∧ v6 = .int .i64 j ∧ v0 = .int .i64 bud ∧ CAt wr W.heap.size p s F ∧ Mo.Sm s ∧ s.bud = Mo.lim bud ∧ Below W.heap.size W wr) (fun _ v _ => n - (intOf v).toNat)
  case atStart => exact ⟨0, b, Mo.new b, F1, Nat.zero_le _, rfl, rfl, C1.out, Mo.Sm.new b, rfl, B1.out⟩
  case round =>
    obtain ⟨j, bud, s, F, hj, rfl, rfl, hc, hs, hbud, hb⟩ := hrel
    have Hc := Lib.hid hc
    have Hs := Lib.hid hs
    have Hbud := Lib.hid hbud
    have Hb := Lib.hid hb
    clear hc hs hbud hb
    by_cases hlt : j < n
    · obtain ⟨ad, rfl⟩ := Hin.out.there hlt
      have hjr : j < rs.length := by omega
      obtain ⟨q0, q1, q2, q3, q4, q5, q6, q7, q8, q9⟩ := (Hin.out.below Hb.out).call j hjr
      go_wp2_with fail
      have K := do_any Hc.out rs[j].x rs[j].A rs[j].n rs[j].c ((Hin.out.pix j hjr).below Hb.out) Hs.out
      unfold clv at K
      with_reducible refine K.mono ?_
      clear K
      rintro e w2 ⟨rfl, F2, c2, st2⟩
      have hb2 : Below W.heap.size W w2 := Hb.out.trans (Hc.out.toBelow st2)
      have hnb := Mo.act_bud rs[j].x s
      rw [Hbud.out] at hnb
      have C2 := Lib.hid c2
      have B2 := Lib.hid hb2
      clear c2 st2 hb2 q0 q1 q2 q3 q4 q5 q6 q7 q8 q9
      obtain ⟨q0, q1, q2, q3, q4, q5, q6, q7, q8, q9⟩ := (Hin.out.below B2.out).call j hjr
      have hs2 := Hs.out.act rs[j].x (Hin.out.pix j hjr).small
      obtain ⟨s2, hs2e⟩ : ∃ s2, s2 = Mo.act rs[j].x s := ⟨_, rfl⟩
      rw [← hs2e] at C2 hnb hs2
      have Hs2 := Lib.hid hs2
      clear hs2 hs2e
      have hcase : (rs[j].x.kind = 4 ∧ s2.bud = Mo.lim rs[j].x.n) ∨ (rs[j].x.kind ≠ 4 ∧ s2.bud = Mo.lim bud) := by
        by_cases hk : rs[j].x.kind = 4
        · exact .inl ⟨hk, by rw [hnb, if_pos hk]⟩
        · exact .inr ⟨hk, by rw [hnb, if_neg hk]⟩
      clear hnb
      rcases hcase with ⟨hk, hnb⟩ | ⟨hk, hnb⟩
      all_goals
        have Hnb := Lib.hid hnb
        clear hnb
        go_wp2_with fail
        have K := keys_any C2.out
        with_reducible refine K.mono ?_
        clear K
        rintro e w3 ⟨v3, rfl, ho3, hb3⟩
        obtain ⟨A3, c3, rfl⟩ := own_slice ho3
        have Ho3 := Lib.hid ho3
        have B3 := Lib.hid (B2.out.trans (hb3.mono B2.out.size))
        have C3 := Lib.hid (C2.out.below hb3)
        have hkl : (Mo.keys s2).length = s2.l.length := by simp [Mo.keys]
        have hle : ((Mo.keys s2).length : Int) ≤ s2.bud := by rw [hkl]; exact C2.out.1.len
        rw [Hnb.out] at hle
        simp only [Mo.lim] at hle
        clear ho3 hb3 q0 q1 q2 q3 q4 q5 q6 q7 q8 q9
        go_wp2_with fail
      all_goals
        have Hkl := Lib.hid hkl
        clear hkl hle
        have hlen2 : s2.l.length ≤ 1024 := by have h1 := C2.out.1.len; have h2 := C2.out.1.b1; omega
        have he := eql29
        have hA : 0 < s2.l.length → ∃ g, A3 = some ⟨g, 0, none⟩ := by
          intro hpos
          rcases Ho3.out.2 with ⟨h, h1⟩ | ⟨g, cap, cur, he, _⟩
          · have := Hkl.out; omega
          · simp at he; exact ⟨g, he.1⟩
        have HA := Lib.hid hA
        clear hA
        go_loopw [8] (fun v8 wa => ∃ a : Nat, a ≤ s2.l.length ∧ v8 = .int .i64 a ∧ Below w3.heap.size w3 wa) (fun v _ => s2.l.length - (intOf v).toNat)
        case atStart => exact ⟨0, Nat.zero_le _, rfl, Below.refl _ _⟩
        case round =>
          obtain ⟨a, ha, rfl, hba⟩ := hrel
          have Hba := Lib.hid hba
          clear hba
          by_cases hla : a < s2.l.length
          · obtain ⟨g, rfl⟩ := HA.out (by omega)
            go_wp2_with fail
            go_loopw [9] (fun v9 wb => ∃ b : Nat, b ≤ a ∧ v9 = .int .i64 b ∧ Below w3.heap.size w3 wb) (fun v _ => a - (intOf v).toNat)
            case atStart => exact ⟨0, Nat.zero_le _, rfl, Hba.out⟩
            case round =>
              obtain ⟨b, hb, rfl, hbb⟩ := hrel
              have Hbb := Lib.hid hbb
              clear hbb
              by_cases hlb : b < a
              · have hka : a < (Mo.keys s2).length := by rw [Hkl.out]; exact hla
                have hkb : b < (Mo.keys s2).length := by omega
                have ho := own_below Ho3.out Hbb.out
                rw [Hkl.out] at ho
                obtain ⟨q0, q1, q2, q3, q4⟩ := own_key ho a hka
                obtain ⟨r0, r1, r2, r3, r4⟩ := own_key ho b hkb
                have hne : ¬ (Mo.keys s2)[a] = (Mo.keys s2)[b] := by
                  intro h
                  exact (List.pairwise_iff_getElem.1 C2.out.1.nd) b a hkb hka hlb h.symm
                have Hne := Lib.hid hne
                clear hne ho
                go_wp2_with fail
                go_region
                go_wp2
                all_goals first
                  | exact absurd (of_decide_eq_true (by assumption)) Hne.out
                  | exact absurd (by assumption) Hne.out
                  | (go_roundw
                     case rel => exact ⟨b + 1, by omega, by go_num, Hbb.out.drew⟩
                     case measure => simp [intOf]; omega)
              · go_wp2
                go_roundw
                case rel => exact ⟨a + 1, by omega, by go_num, Hbb.out⟩
                case measure => simp [intOf]; omega
          · go_wp2
            go_roundw
            case rel => exact ⟨j + 1, _, s2, F2, by omega, by go_num, rfl, C3.out.below Hba.out, Hs2.out, Hnb.out, B3.out.trans (Hba.out.mono B3.out.size)⟩
            case measure => simp [intOf]; omega
    · have hp : j = n := by omega
      subst hp
      go_wp2_with fail
      refine (example_any wr).mono ?_
      rintro e w2 ⟨rfl, hb2⟩
      go_wp2
      go_ret
      exact ⟨rfl, Hb.out.trans (hb2.mono Hb.out.size)⟩
end Go.Proofs.Ytpdjfcnlbaaogaa
