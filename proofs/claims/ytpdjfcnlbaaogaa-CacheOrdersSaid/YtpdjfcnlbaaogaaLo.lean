/- CacheOrders. -/
import Derived.Test.YtpdjfcnlbaaogaaLb
namespace Go.Proofs.Ytpdjfcnlbaaogaa
open Go.RowKit

namespace Mo
/-- Two caches that differ in the images alone. -/
def Al (s t : Ca) : Prop := s.bud = t.bud ∧ s.ev = t.ev ∧ keys s = keys t
theorem Al.len {s t : Ca} (h : Al s t) : s.l.length = t.l.length := by
  have := congrArg List.length h.2.2
  simpa [keys] using this
theorem keys_rmB (k : Ky) (l : List (Ky × Im)) : (rm k l).map (·.1) = (l.map (·.1)).filter (fun q => !(q == k)) := by
  unfold rm
  rw [List.filter_map]
  rfl
theorem Al.use {s t : Ca} (h : Al s t) (k : Ky) (i j : Im) : Al (use k i s) (use k j t) := by
  refine ⟨h.1, h.2.1, ?_⟩
  have := h.2.2
  simp only [keys, Mo.use, List.map_append, keys_rmB, List.map_cons, List.map_nil] at this ⊢
  rw [this]
theorem Al.shrink {s t : Ca} (h : Al s t) : Al (shrink s) (shrink t) := by
  have ho : over s = over t := by unfold over; rw [h.len, h.1]
  refine ⟨h.1, ?_, ?_⟩
  · simp only [Mo.shrink]; rw [h.2.1, ho]
  · have := h.2.2
    simp only [keys, Mo.shrink, List.map_drop] at this ⊢
    rw [this, ho]
theorem look_some_iff {k : Ky} {l : List (Ky × Im)} : (look k l).isSome = true ↔ k ∈ l.map (·.1) := by
  unfold look
  rw [Option.isSome_map, List.find?_isSome]
  constructor
  · rintro ⟨q, hq, h⟩
    exact List.mem_map.2 ⟨q, hq, by simpa using h⟩
  · intro h
    obtain ⟨q, hq, h⟩ := List.mem_map.1 h
    exact ⟨q, hq, by simpa using h⟩
theorem Al.act {s t : Ca} (h : Al s t) (x y : Cl) (hk : x.kind = y.kind) (hn : x.n = y.n) (hkk : x.k = y.k) : Al (act x s) (act y t) := by
  unfold Mo.act
  rw [hk, hn, hkk]
  split
  · unfold Mo.get
    have hb : (look y.k s.l).isSome = (look y.k t.l).isSome := by
      have h1 := @look_some_iff y.k s.l
      have h2 := @look_some_iff y.k t.l
      have h3 := h.2.2
      unfold keys at h3
      rw [h3, ← h2] at h1
      exact Bool.eq_iff_iff.2 h1
    cases h1 : look y.k s.l with
    | none =>
      rw [h1] at hb
      cases h2 : look y.k t.l with
      | none => exact h
      | some j => rw [h2] at hb; simp at hb
    | some i =>
      rw [h1] at hb
      cases h2 : look y.k t.l with
      | none => rw [h2] at hb; simp at hb
      | some j => exact h.use _ _ _
  · split
    · unfold Mo.put
      rw [h.1]
      split
      · exact h
      · exact (h.use _ _ _).shrink
    · split
      · refine ⟨h.1, h.2.1, ?_⟩
        have := h.2.2
        simp only [keys, Mo.drop] at this ⊢
        have e : ∀ l : List (Ky × Im), (l.filter (fun p => !(p.1.node == y.n))).map (·.1) = (l.map (·.1)).filter (fun q => !(q.node == y.n)) := by
          intro l; rw [List.filter_map]; rfl
        rw [e, e, this]
      · split
        · refine ⟨h.1, h.2.1, ?_⟩
          have := h.2.2
          simp only [keys, Mo.remove, keys_rmB] at this ⊢
          rw [this]
        · split
          · have h' : Al { s with bud := lim y.n } { t with bud := lim y.n } := ⟨rfl, h.2.1, h.2.2⟩
            exact h'.shrink
          · exact h
end Mo

/-- A step of one cache leaves the other. -/
theorem two_step {w w' : World} {B B' p q : Nat} {s t : Mo.Ca} {F F' G : Nat → Prop} (ha : CAt w B p s F) (hb : CAt w B' q t G) (hd : ∀ x, F x → ¬ G x) (st : Stp w w' F F') : CAt w' B' q t G ∧ ∀ x, F' x → ¬ G x :=
  ⟨hb.frame st.1 (fun x hg hf => hd x hf hg) ha.notPix, fun x hx hg => by
    rcases st.2 x hx with h | h
    · exact hd x h hg
    · have := (hb.lt x hg).2; omega⟩

set_option maxHeartbeats 1000000 in
theorem orders_walk {W : World} {A : Option Addr} {n cap : Nat} {rs : List Row} (b : Int) (h : CIn W A n rs) : Calls Try.prog 6 #[.int .i64 b, .slice A n cap] W fun e w' => e = .returned (.bool true) ∧ Below W.heap.size W w' := by
  have hlen := h.len
  have hroom := h.room
  have Hin := Lib.hid h
  clear h
  go_enter Try.func6, Try.ntmps6
  go_wp2_with fail
  refine (new_any b W W.heap.size (Nat.le_refl _)).mono ?_
  rintro e w1 ⟨p, F1, rfl, c1, b1, _⟩
  have C1 := Lib.hid c1
  have B1 := Lib.hid b1
  clear c1 b1
  go_wp2_with fail
  refine (new_any b w1 W.heap.size B1.out.size).mono ?_
  rintro e w2 ⟨q, G1, rfl, d1, b2, hg1⟩
  have hdis : ∀ x, F1 x → ¬ G1 x := fun x hf hg => by
    have := (C1.out.lt x hf).2
    have := hg1 x hg
    omega
  have C2 := Lib.hid (C1.out.below b2)
  have D2 := Lib.hid d1
  have B2 := Lib.hid (B1.out.trans (b2.mono B1.out.size))
  have Hdis := Lib.hid hdis
  clear d1 b2 hdis hg1
  go_wp2_with fail
  go_loopw [7] (fun v7 wr => ∃ (j : Nat) (s t : Mo.Ca) (F G : Nat → Prop), j ≤ n ∧ v7 = .int .i64 j ∧ CAt wr W.heap.size p s F ∧ CAt wr W.heap.size q t G ∧ (∀ x, F x → ¬ G x) ∧ Mo.Sm s ∧ Mo.Sm t ∧ Mo.Al s t ∧ Below W.heap.size W wr) (fun v _ => n - (intOf v).toNat)
  case atStart => exact ⟨0, Mo.new b, Mo.new b, F1, G1, Nat.zero_le _, rfl, C2.out, D2.out, Hdis.out, Mo.Sm.new b, Mo.Sm.new b, ⟨rfl, rfl, rfl⟩, B2.out⟩
  case round =>
    obtain ⟨j, s, t, F, G, hj, rfl, hc, hd, hdis, hs, ht, hal, hb⟩ := hrel
    have Hc := Lib.hid hc
    have Hd := Lib.hid hd
    have Hdj := Lib.hid hdis
    have Hs := Lib.hid hs
    have Ht := Lib.hid ht
    have Hal := Lib.hid hal
    have Hb := Lib.hid hb
    clear hc hd hdis hs ht hal hb
    by_cases hlt : j < n
    · obtain ⟨ad, rfl⟩ := Hin.out.there hlt
      have hjr : j < rs.length := by omega
      obtain ⟨q0, q1, q2, q3, q4, q5, q6, q7, q8, q9⟩ := (Hin.out.below Hb.out).call j hjr
      go_wp2_with fail
      have K := do_any Hc.out rs[j].x rs[j].A rs[j].n rs[j].c ((Hin.out.pix j hjr).below Hb.out) Hs.out
      unfold clv at K
      with_reducible refine K.mono ?_
      clear K
      rintro e w3 ⟨rfl, F3, c3, st3⟩
      have hb3 : Below W.heap.size W w3 := Hb.out.trans (Hc.out.toBelow st3)
      obtain ⟨d3, dis3⟩ := two_step Hc.out Hd.out Hdj.out st3
      have hs3 := Hs.out.act rs[j].x (Hin.out.pix j hjr).small
      have C3 := Lib.hid c3
      have D3 := Lib.hid d3
      have Dis3 := Lib.hid dis3
      have Hs3 := Lib.hid hs3
      have B3 := Lib.hid hb3
      clear c3 st3 d3 dis3 hs3 hb3 q0 q1 q2 q3 q4 q5 q6 q7 q8 q9
      obtain ⟨q0, q1, q2, q3, q4, q5, q6, q7, q8, q9⟩ := (Hin.out.below B3.out).call j hjr
      go_wp2_with fail
      have hbA : Below w3.heap.size w3 (w3.alloc (.cells #[.int .i64 rs[j].x.kind, .int .i64 rs[j].x.n, .int .i64 rs[j].x.k.node, .int .i64 rs[j].x.k.stamp, .int .i64 rs[j].x.k.level, .int .i64 rs[j].x.k.x, .int .i64 rs[j].x.k.y, .int .i64 0, .int .i64 0, .slice none 0 0] 34)) := Below.alloc (Below.refl _ _) (Nat.le_refl _) _
      have K := do_any (D3.out.below hbA) ⟨rs[j].x.kind, rs[j].x.n, rs[j].x.k, im0⟩ none 0 0 ⟨rfl, by omega, fun _ => rfl, fun _ h => by simp at h⟩ Ht.out
      unfold clv at K
      simp only [im0] at K
      with_reducible refine K.mono ?_
      clear K
      rintro e w4 ⟨rfl, G4, d4, st4⟩
      have CA := C3.out.below hbA
      have DA := D3.out.below hbA
      obtain ⟨c4, dis4⟩ := two_step DA CA (fun x hg hf => Dis3.out x hf hg) st4
      have ht4 := Ht.out.act ⟨rs[j].x.kind, rs[j].x.n, rs[j].x.k, im0⟩ im0_small
      have hal4 := Hal.out.act rs[j].x ⟨rs[j].x.kind, rs[j].x.n, rs[j].x.k, im0⟩ rfl rfl rfl
      have hb4 : Below W.heap.size W w4 := (B3.out.trans (hbA.mono B3.out.size)).trans (DA.toBelow st4)
      obtain ⟨s4, hs4⟩ : ∃ s4, s4 = Mo.act rs[j].x s := ⟨_, rfl⟩
      obtain ⟨t4, ht4e⟩ : ∃ t4, t4 = Mo.act ⟨rs[j].x.kind, rs[j].x.n, rs[j].x.k, im0⟩ t := ⟨_, rfl⟩
      simp only [im0] at ht4e ht4 hal4
      rw [← hs4] at c4 hal4
      rw [← ht4e] at d4 ht4 hal4
      have hs5 := Hs3.out
      rw [← hs4] at hs5
      have C4 := Lib.hid c4
      have D4 := Lib.hid d4
      have Dis4 := Lib.hid dis4
      have Hs4 := Lib.hid hs5
      have Ht4 := Lib.hid ht4
      have Hal4 := Lib.hid hal4
      have B4 := Lib.hid hb4
      clear c4 d4 dis4 hs5 ht4 hal4 hb4 hs4 ht4e st4 CA DA hbA C3 D3 Hs3 B3 Dis3 q0 q1 q2 q3 q4 q5 q6 q7 q8 q9
      go_wp2_with fail
      have K := keys_any C4.out
      with_reducible refine K.mono ?_
      clear K
      rintro e w5 ⟨v5, rfl, ho5, hb5⟩
      obtain ⟨A5, c5, rfl⟩ := own_slice ho5
      have Ho5 := Lib.hid ho5
      have B5 := Lib.hid (B4.out.trans (hb5.mono B4.out.size))
      have C5 := Lib.hid (C4.out.below hb5)
      have D5 := Lib.hid (D4.out.below hb5)
      clear ho5 hb5
      go_wp2_with fail
      have K := keys_any D5.out
      with_reducible refine K.mono ?_
      clear K
      rintro e w6 ⟨v6, rfl, ho6, hb6⟩
      obtain ⟨A6, c6, rfl⟩ := own_slice ho6
      have Ho5' := Lib.hid (own_below Ho5.out hb6)
      have Ho6 := Lib.hid ho6
      have B6 := Lib.hid (B5.out.trans (hb6.mono B5.out.size))
      have C6 := Lib.hid (C5.out.below hb6)
      have D6 := Lib.hid (D5.out.below hb6)
      have hk5 : (Mo.keys s4).length ≤ 4096 := by
        have h1 := C4.out.1.len
        have h2 := C4.out.1.b1
        have h3 : (Mo.keys s4).length = s4.l.length := by simp [Mo.keys]
        omega
      clear ho6 hb6 Ho5 C5 D5
      go_wp2_with fail
      have K := same_keys (Mo.keys s4) (Mo.keys t4) Ho5'.out Ho6.out hk5
      rw [decide_eq_true Hal4.out.2.2] at K
      with_reducible refine K.mono ?_
      clear K
      rintro e w7 ⟨rfl, hb7⟩
      have B7 := Lib.hid (B6.out.trans (hb7.mono B6.out.size))
      have C7 := Lib.hid (C6.out.below hb7)
      have D7 := Lib.hid (D6.out.below hb7)
      clear hb7
      go_wp2_with fail
      have K := evicted_any C7.out
      with_reducible refine K.mono ?_
      clear K
      rintro e w8 ⟨rfl, rfl⟩
      go_wp2_with fail
      have K := evicted_any D7.out
      with_reducible refine K.mono ?_
      clear K
      rintro e w8 ⟨rfl, rfl⟩
      have hev := Hal4.out.2.1
      rw [hev]
      clear hev
      go_wp2
      go_roundw
      case rel => exact ⟨j + 1, s4, t4, F3, G4, by omega, by go_num, C7.out, D7.out, fun x hf hg => Dis4.out x hg hf, Hs4.out, Ht4.out, Hal4.out, B7.out⟩
      case measure => simp [intOf]; omega
    · have hp : j = n := by omega
      subst hp
      go_wp2_with fail
      refine (example_any wr).mono ?_
      rintro e w3 ⟨rfl, hb3⟩
      go_wp2
      go_ret
      exact ⟨rfl, Hb.out.trans (hb3.mono Hb.out.size)⟩
end Go.Proofs.Ytpdjfcnlbaaogaa
