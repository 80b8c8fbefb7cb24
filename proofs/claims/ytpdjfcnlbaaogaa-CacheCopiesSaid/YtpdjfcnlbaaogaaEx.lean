/- The examples of the chapter. -/
import Derived.Test.YtpdjfcnlbaaogaaY
namespace Go.Proofs.Ytpdjfcnlbaaogaa
open Go.RowKit

def k1 : Mo.Ky := ⟨1, 0, 0, 0, 0⟩
def k2 : Mo.Ky := ⟨2, 0, 0, 0, 0⟩
def k3 : Mo.Ky := ⟨3, 0, 0, 0, 0⟩
def im0 : Mo.Im := ⟨0, 0, []⟩
theorem im0_in (w : World) : InIm w (.agg #[.int .i64 0, .int .i64 0, .slice none 0 0]) im0 := ⟨none, 0, 0, rfl, rfl, by omega, fun _ => rfl, fun _ h => by simp at h⟩

theorem im0_small : Mo.Small im0 := by unfold Mo.Small im0; simp

theorem CAt.keep {w w' : World} {B p : Nat} {s : Mo.Ca} {F F' : Nat → Prop} (h : CAt w B p s F) (st : Stp w w' F F') {b : Nat} {o : Obj} (hb : b < B) (ho : w.heap[b]? = some o) : w'.heap[b]? = some o :=
  (st.1.block b (Array.getElem?_eq_some_iff.1 ho).1 fun hf => by have := (h.lt b hf).1; omega).trans ho
theorem CAt.toBelow {w w' : World} {B p : Nat} {s : Mo.Ca} {F F' : Nat → Prop} (h : CAt w B p s F) (st : Stp w w' F F') : Below B w w' :=
  st.1.toBelow h.2.1 fun b hb => (h.lt b hb).1

def kb (k : Mo.Ky) : Obj := .cells #[.int .i64 k.node, .int .i64 k.stamp, .int .i64 k.level, .int .i64 k.x, .int .i64 k.y] 29

def row2 : Obj := (.cells #[.int .i64 1, .int .i64 0, .int .i64 0, .int .i64 0, .int .i64 0, .int .i64 3, .int .i64 0, .int .i64 0, .int .i64 0, .int .i64 0] 29)
theorem two_keys {w' : World} {a b : Nat} (h1 : w'.heap[a]? = some (kb k1)) (h3 : w'.heap[b]? = some (kb k3)) : w'.cell? ⟨a, 0, none⟩ = some (.int .i64 1) ∧ w'.cell? ⟨a, 1, none⟩ = some (.int .i64 0) ∧ w'.cell? ⟨a, 2, none⟩ = some (.int .i64 0) ∧ w'.cell? ⟨a, 3, none⟩ = some (.int .i64 0) ∧ w'.cell? ⟨a, 4, none⟩ = some (.int .i64 0) ∧ w'.cell? ⟨b, 0, none⟩ = some (.int .i64 3) ∧ w'.cell? ⟨b, 1, none⟩ = some (.int .i64 0) ∧ w'.cell? ⟨b, 2, none⟩ = some (.int .i64 0) ∧ w'.cell? ⟨b, 3, none⟩ = some (.int .i64 0) ∧ w'.cell? ⟨b, 4, none⟩ = some (.int .i64 0) := by
  obtain ⟨q0, q1, q2, q3, q4, _⟩ := blk5 h1
  obtain ⟨r0, r1, r2, r3, r4, _⟩ := blk5 h3
  exact ⟨q0, q1, q2, q3, q4, r0, r1, r2, r3, r4⟩
theorem one_key {w' : World} {b : Nat} (h3 : w'.heap[b]? = some (kb k3)) : w'.cell? ⟨b, 0, none⟩ = some (.int .i64 3) ∧ w'.cell? ⟨b, 1, none⟩ = some (.int .i64 0) ∧ w'.cell? ⟨b, 2, none⟩ = some (.int .i64 0) ∧ w'.cell? ⟨b, 3, none⟩ = some (.int .i64 0) ∧ w'.cell? ⟨b, 4, none⟩ = some (.int .i64 0) := by
  obtain ⟨r0, r1, r2, r3, r4, _⟩ := blk5 h3
  exact ⟨r0, r1, r2, r3, r4⟩
theorem row_is {w' : World} {b B : Nat} (ks : List Mo.Ky) (hn : ks.length ≤ 1000) (h : w'.heap[b]? = some (.cells (flatK ks).toArray 29 (0, 0))) (hB : B ≤ b) : w'.ownsRow B 29 5 (.slice (some ⟨b, 0, none⟩) ks.length ks.length) ks.length (flatK ks) :=
  ⟨flatK_length ks, .inr ⟨b, ks.length, _, rfl, hB, h, Nat.le_refl _, by simp [maxLen]; omega, by simp [flatK_length], by rw [List.take_of_length_le]; simp [flatK_length]⟩⟩
theorem row_two {w' : World} {b B : Nat} (h : w'.heap[b]? = some row2) (hB : B ≤ b) : w'.ownsRow B 29 5 (.slice (some ⟨b, 0, none⟩) 2 2) [k1, k3].length (flatK [k1, k3]) :=
  row_is [k1, k3] (by simp) h hB

set_option maxHeartbeats 4000000 in
theorem example_any (w : World) : Calls Try.prog 17 #[] w fun e w' => e = .returned (.bool true) ∧ Below w.heap.size w w' := by
  obtain ⟨W, hW⟩ : ∃ W, W = ((w.alloc (kb k1)).alloc (kb k2)).alloc (kb k3) := ⟨_, rfl⟩
  have hsW : W.heap.size = w.heap.size + 1 + 1 + 1 := by rw [hW]; simp
  have hbW : Below w.heap.size w W := by rw [hW]; exact ((Below.alloc (Below.refl _ _) (Nat.le_refl _) _).alloc (by simp) _).alloc (by simp; omega) _
  have ha1 : W.heap[w.heap.size]? = some (kb k1) := by rw [hW]; exact blk_alloc _ (blk_alloc _ (blk_new w _))
  have ha2 : W.heap[w.heap.size + 1]? = some (kb k2) := by rw [hW]; exact blk_alloc _ (blk_at _ _ _ (by simp))
  have ha3 : W.heap[w.heap.size + 1 + 1]? = some (kb k3) := by rw [hW]; exact blk_at _ _ _ (by simp)
  have HW := Lib.hid hW
  have HsW := Lib.hid hsW
  have HbW := Lib.hid hbW
  have Ha1 := Lib.hid ha1
  have Ha2 := Lib.hid ha2
  have Ha3 := Lib.hid ha3
  clear hW hsW hbW ha1 ha2 ha3
  go_enter Try.func17, Try.ntmps17
  go_wp2_with fail
  have hW2 := HW.out
  simp only [kb, k1, k2, k3] at hW2
  rw [← hW2]
  clear hW2
  refine (new_any 2 W W.heap.size (Nat.le_refl _)).mono ?_
  rintro e w1 ⟨p, F1, rfl, c1, b1, _⟩
  have hs1 := b1.size
  have Ha1' := Lib.hid (blk_in b1 Ha1.out)
  have Ha2' := Lib.hid (blk_in b1 Ha2.out)
  have Ha3' := Lib.hid (blk_in b1 Ha3.out)
  obtain ⟨q0, q1, q2, q3, q4, _⟩ := blk5 Ha1'.out
  have C1 := Lib.hid c1
  have B1 := Lib.hid b1
  clear c1 b1 Ha1 Ha2 Ha3
  simp only [k1] at q0 q1 q2 q3 q4
  have hsW := HsW.out
  go_wp2_with fail
  refine (put_any C1.out k1 _ im0 (im0_in _)).mono ?_
  rintro e w2 ⟨rfl, F2, c2, st2⟩
  have Hb1 := Lib.hid (C1.out.keep st2 (by omega) Ha1'.out)
  have Hb2 := Lib.hid (C1.out.keep st2 (by omega) Ha2'.out)
  have Hb3 := Lib.hid (C1.out.keep st2 (by omega) Ha3'.out)
  have B2 := Lib.hid (B1.out.trans (C1.out.toBelow st2))
  have C2 := Lib.hid c2
  clear c2 st2 Ha1' Ha2' Ha3' C1 B1 q0 q1 q2 q3 q4
  obtain ⟨q0, q1, q2, q3, q4, _⟩ := blk5 Hb2.out
  simp only [k2] at q0 q1 q2 q3 q4
  go_wp2_with fail
  refine (put_any C2.out k2 _ im0 (im0_in _)).mono ?_
  rintro e w3 ⟨rfl, F3, c3, st3⟩
  have Hc1 := Lib.hid (C2.out.keep st3 (by omega) Hb1.out)
  have Hc3 := Lib.hid (C2.out.keep st3 (by omega) Hb3.out)
  have B3 := Lib.hid (B2.out.trans (C2.out.toBelow st3))
  have C3 := Lib.hid c3
  clear c3 st3 Hb1 Hb2 Hb3 C2 B2 q0 q1 q2 q3 q4
  obtain ⟨q0, q1, q2, q3, q4, _⟩ := blk5 Hc1.out
  simp only [k1] at q0 q1 q2 q3 q4
  go_wp2_with fail
  refine (get_any C3.out k1 (((Mo.Sm.new 2).put k1 im0 im0_small).put k2 im0 im0_small)).mono ?_
  rintro e w4 ⟨⟨v4, b4, rfl, _⟩, F4, c4, st4⟩
  have Hd1 := Lib.hid (C3.out.keep st4 (by omega) Hc1.out)
  have Hd3 := Lib.hid (C3.out.keep st4 (by omega) Hc3.out)
  have B4 := Lib.hid (B3.out.trans (C3.out.toBelow st4))
  have C4 := Lib.hid c4
  clear c4 st4 Hc1 Hc3 C3 B3 q0 q1 q2 q3 q4
  obtain ⟨q0, q1, q2, q3, q4, _⟩ := blk5 Hd3.out
  simp only [k3] at q0 q1 q2 q3 q4
  go_wp2_with fail
  refine (put_any C4.out k3 _ im0 (im0_in _)).mono ?_
  rintro e w5 ⟨rfl, F5, c5, st5⟩
  have He1 := Lib.hid (C4.out.keep st5 (by omega) Hd1.out)
  have He3 := Lib.hid (C4.out.keep st5 (by omega) Hd3.out)
  have B5 := Lib.hid (B4.out.trans (C4.out.toBelow st5))
  have C5 := Lib.hid c5
  clear c5 st5 Hd1 Hd3 C4 B4 q0 q1 q2 q3 q4
  obtain ⟨q0, q1, q2, q3, q4, _⟩ := blk5 He1.out
  obtain ⟨r0, r1, r2, r3, r4, _⟩ := blk5 He3.out
  simp only [k1] at q0 q1 q2 q3 q4
  simp only [k3] at r0 r1 r2 r3 r4
  obtain ⟨s5, hs5⟩ : ∃ s5, s5 = Mo.put k3 im0 (Mo.get k1 (Mo.put k2 im0 (Mo.put k1 im0 (Mo.new 2)))) := ⟨_, rfl⟩
  rw [← hs5] at C5
  have hk5 : Mo.keys s5 = [k1, k3] := by rw [hs5]; decide
  have he5 : s5.ev = 1 := by rw [hs5]; kernel_rfl
  have Hs5 := Lib.hid hs5
  have Hk5 := Lib.hid hk5
  have He5 := Lib.hid he5
  clear hs5 hk5 he5
  go_wp2_with fail
  have hw5 : w.heap.size + 1 + 1 < w5.heap.size := (Array.getElem?_eq_some_iff.1 He3.out).1
  have hlen5 : (Mo.keys s5).length = 2 := by rw [Hk5.out]; rfl
  go_region_held3 (fun w' => w'.cell? ⟨w.heap.size, 0, none⟩ = some (.int .i64 1) ∧ w'.cell? ⟨w.heap.size, 1, none⟩ = some (.int .i64 0) ∧ w'.cell? ⟨w.heap.size, 2, none⟩ = some (.int .i64 0) ∧ w'.cell? ⟨w.heap.size, 3, none⟩ = some (.int .i64 0) ∧ w'.cell? ⟨w.heap.size, 4, none⟩ = some (.int .i64 0) ∧ w'.cell? ⟨w.heap.size + 1 + 1, 0, none⟩ = some (.int .i64 3) ∧ w'.cell? ⟨w.heap.size + 1 + 1, 1, none⟩ = some (.int .i64 0) ∧ w'.cell? ⟨w.heap.size + 1 + 1, 2, none⟩ = some (.int .i64 0) ∧ w'.cell? ⟨w.heap.size + 1 + 1, 3, none⟩ = some (.int .i64 0) ∧ w'.cell? ⟨w.heap.size + 1 + 1, 4, none⟩ = some (.int .i64 0))
    (first
      | go_keep
      | exact Hk6.out
      | exact Hk7.out)
    (first
      | (go_at_call 13
         have K := keys_any (w := w5.drew) (C5.out.below (Below.drew (Below.refl _ _)))
         with_reducible refine K.mono ?_
         clear K
         rintro e w6 ⟨v6, rfl, ho6, hb6'⟩
         have hb6 : Below w5.heap.size w5 w6 := (Below.drew (Below.refl _ _)).trans hb6'
         rw [Hk5.out] at ho6
         have Hk6 := Lib.hid (two_keys (blk_in hb6 He1.out) (blk_in hb6 He3.out))
         have Ho6 := Lib.hid ho6
         have Hb6 := Lib.hid hb6
         obtain ⟨A6, c6, rfl⟩ := own_slice ho6
         clear ho6 hb6 hb6')
      | (go_at_call 13
         have K := keys_any (w := (w5.alloc (.cells #[.int .i64 1, .int .i64 0, .int .i64 0, .int .i64 0, .int .i64 0, .int .i64 3, .int .i64 0, .int .i64 0, .int .i64 0, .int .i64 0] 29)).drew) (C5.out.below (((Below.refl _ _).alloc (Nat.le_refl _) _).drew))
         with_reducible refine K.mono ?_
         clear K
         rintro e w6 ⟨v6, rfl, ho6, hb6'⟩
         have hb6 : Below w5.heap.size w5 w6 := (((Below.refl _ _).alloc (Nat.le_refl _) _).drew).trans (hb6'.mono (by simp))
         have Hrow := Lib.hid (blk_in hb6' (blk_new w5 (.cells #[.int .i64 1, .int .i64 0, .int .i64 0, .int .i64 0, .int .i64 0, .int .i64 3, .int .i64 0, .int .i64 0, .int .i64 0, .int .i64 0] 29)))
         rw [Hk5.out] at ho6
         have Hk6 := Lib.hid (two_keys (blk_in hb6 He1.out) (blk_in hb6 He3.out))
         have Ho6 := Lib.hid ho6
         have Hb6 := Lib.hid hb6
         obtain ⟨A6, c6, rfl⟩ := own_slice ho6
         clear ho6 hb6 hb6')
      | (go_at_call 12
         have K := same_keys (va := .slice A6 2 c6) (vb := .slice (some ⟨w6.heap.size, 0, none⟩) 2 2) (w := w6.alloc (.cells #[.int .i64 1, .int .i64 0, .int .i64 0, .int .i64 0, .int .i64 0, .int .i64 3, .int .i64 0, .int .i64 0, .int .i64 0, .int .i64 0] 29)) (B1 := w5.heap.size) (B2 := w6.heap.size) [k1, k3] [k1, k3] (own_below Ho6.out ((Below.refl _ _).alloc (Nat.le_refl _) _)) (row_two (blk_new w6 _) (Nat.le_refl _)) (by decide)
         with_reducible refine K.mono ?_
         clear K
         rintro e w7 ⟨rfl, hb7'⟩
         have hb7 : Below w5.heap.size w5 w7 := Hb6.out.trans (((Below.refl _ _).alloc (Nat.le_refl _) _ |>.mono Hb6.out.size).trans (hb7'.mono (by have := Hb6.out.size; simp; omega)))
         have Hk7 := Lib.hid (two_keys (blk_in hb7 He1.out) (blk_in hb7 He3.out))
         have C7 := Lib.hid (C5.out.below hb7)
         have Hb7 := Lib.hid hb7
         clear hb7 hb7')
      | (go_at_call 12
         have K := same_keys (va := .slice A6 2 c6) (vb := .slice (some ⟨w5.heap.size, 0, none⟩) 2 2) (B1 := (w5.alloc (.cells #[.int .i64 1, .int .i64 0, .int .i64 0, .int .i64 0, .int .i64 0, .int .i64 3, .int .i64 0, .int .i64 0, .int .i64 0, .int .i64 0] 29)).heap.size) (w := w6) (B2 := w5.heap.size) [k1, k3] [k1, k3] Ho6.out (row_two Hrow.out (Nat.le_refl _)) (by decide)
         with_reducible refine K.mono ?_
         clear K
         rintro e w7 ⟨rfl, hb7'⟩
         have hb7 : Below w5.heap.size w5 w7 := Hb6.out.trans (hb7'.mono Hb6.out.size)
         have Hk7 := Lib.hid (two_keys (blk_in hb7 He1.out) (blk_in hb7 He3.out))
         have C7 := Lib.hid (C5.out.below hb7)
         have Hb7 := Lib.hid hb7
         clear hb7 hb7')
      | (go_at_call 15
         have K := evicted_any C7.out
         with_reducible refine K.mono ?_
         clear K
         rintro e w8 ⟨rfl, rfl⟩
         rw [He5.out]))
  all_goals
    have Hf3 := Lib.hid (blk_in Hb7.out He3.out)
    go_wp2_with fail
    refine (resize_any C7.out 1).mono ?_
    rintro e w8 ⟨rfl, F8, c8, st8⟩
    have Hg3 := Lib.hid (C7.out.keep st8 (by omega) Hf3.out)
    have hb8 : Below W.heap.size W w8 := (B5.out.trans (Hb7.out.mono B5.out.size)).trans (C7.out.toBelow st8)
    have ho8 : Mo.over { s5 with bud := Mo.lim 1 } = 1 := by rw [Hs5.out]; kernel_rfl
    rw [ho8]
    obtain ⟨s8, hs8⟩ : ∃ s8, s8 = Mo.resize 1 s5 := ⟨_, rfl⟩
    rw [← hs8] at c8
    have C8 := Lib.hid c8
    have B8 := Lib.hid hb8
    have hk8 : Mo.keys s8 = [k3] := by rw [hs8, Hs5.out]; kernel_rfl
    have he8 : s8.ev = 2 := by rw [hs8, Hs5.out]; kernel_rfl
    have hd8 : Mo.dropped 3 s8 = 1 := by rw [hs8, Hs5.out]; kernel_rfl
    have Hk8 := Lib.hid hk8
    have He8 := Lib.hid he8
    have Hd8 := Lib.hid hd8
    obtain ⟨q0, q1, q2, q3, q4, _⟩ := blk5 Hg3.out
    simp only [k3] at q0 q1 q2 q3 q4
    have hw8 : w.heap.size + 1 + 1 < w8.heap.size := (Array.getElem?_eq_some_iff.1 Hg3.out).1
    clear c8 hb8 ho8 hk8 he8 hd8 st8 hs8
    clear r0 r1 r2 r3 r4
    go_wp2_with fail
  all_goals go_region_held3 (fun w' => w'.cell? ⟨w.heap.size + 1 + 1, 0, none⟩ = some (.int .i64 3) ∧ w'.cell? ⟨w.heap.size + 1 + 1, 1, none⟩ = some (.int .i64 0) ∧ w'.cell? ⟨w.heap.size + 1 + 1, 2, none⟩ = some (.int .i64 0) ∧ w'.cell? ⟨w.heap.size + 1 + 1, 3, none⟩ = some (.int .i64 0) ∧ w'.cell? ⟨w.heap.size + 1 + 1, 4, none⟩ = some (.int .i64 0))
    (first
      | go_keep
      | exact HkA.out
      | exact HkB.out
      | exact HkD.out)
    (first
      | (go_at_call 13
         have K := keys_any (w := w8.drew) (C8.out.below (Below.drew (Below.refl _ _)))
         with_reducible refine K.mono ?_
         clear K
         rintro e wA ⟨vA, rfl, hoA, hbA'⟩
         have hbA : Below w8.heap.size w8 wA := (Below.drew (Below.refl _ _)).trans hbA'
         rw [Hk8.out] at hoA
         have HkA := Lib.hid (one_key (blk_in hbA Hg3.out))
         have HoA := Lib.hid hoA
         have HbA := Lib.hid hbA
         obtain ⟨AA, cA, rfl⟩ := own_slice hoA
         clear hoA hbA hbA')
      | (go_at_call 13
         have K := keys_any (w := (w8.alloc (.cells #[.int .i64 3, .int .i64 0, .int .i64 0, .int .i64 0, .int .i64 0] 29)).drew) (C8.out.below (((Below.refl _ _).alloc (Nat.le_refl _) _).drew))
         with_reducible refine K.mono ?_
         clear K
         rintro e wA ⟨vA, rfl, hoA, hbA'⟩
         have hbA : Below w8.heap.size w8 wA := (((Below.refl _ _).alloc (Nat.le_refl _) _).drew).trans (hbA'.mono (by simp))
         have Hrow := Lib.hid (blk_in hbA' (blk_new w8 (.cells #[.int .i64 3, .int .i64 0, .int .i64 0, .int .i64 0, .int .i64 0] 29)))
         rw [Hk8.out] at hoA
         have HkA := Lib.hid (one_key (blk_in hbA Hg3.out))
         have HoA := Lib.hid hoA
         have HbA := Lib.hid hbA
         obtain ⟨AA, cA, rfl⟩ := own_slice hoA
         clear hoA hbA hbA')
      | (go_at_call 12
         have K := same_keys (va := .slice AA 1 cA) (vb := .slice (some ⟨wA.heap.size, 0, none⟩) 1 1) (w := wA.alloc (.cells #[.int .i64 3, .int .i64 0, .int .i64 0, .int .i64 0, .int .i64 0] 29)) (B1 := w8.heap.size) (B2 := wA.heap.size) [k3] [k3] (own_below HoA.out ((Below.refl _ _).alloc (Nat.le_refl _) _)) (row_is [k3] (by simp) (blk_new wA _) (Nat.le_refl _)) (by decide)
         with_reducible refine K.mono ?_
         clear K
         rintro e wB ⟨rfl, hbB'⟩
         have hbB : Below w8.heap.size w8 wB := HbA.out.trans (((Below.refl _ _).alloc (Nat.le_refl _) _ |>.mono HbA.out.size).trans (hbB'.mono (by have := HbA.out.size; simp; omega)))
         have HkB := Lib.hid (one_key (blk_in hbB Hg3.out))
         have CB := Lib.hid (C8.out.below hbB)
         have HbB := Lib.hid hbB
         clear hbB hbB')
      | (go_at_call 12
         have K := same_keys (va := .slice AA 1 cA) (vb := .slice (some ⟨w8.heap.size, 0, none⟩) 1 1) (w := wA) (B1 := (w8.alloc (.cells #[.int .i64 3, .int .i64 0, .int .i64 0, .int .i64 0, .int .i64 0] 29)).heap.size) (B2 := w8.heap.size) [k3] [k3] HoA.out (row_is [k3] (by simp) Hrow.out (Nat.le_refl _)) (by decide)
         with_reducible refine K.mono ?_
         clear K
         rintro e wB ⟨rfl, hbB'⟩
         have hbB : Below w8.heap.size w8 wB := HbA.out.trans (hbB'.mono HbA.out.size)
         have HkB := Lib.hid (one_key (blk_in hbB Hg3.out))
         have CB := Lib.hid (C8.out.below hbB)
         have HbB := Lib.hid hbB
         clear hbB hbB')
      | (go_at_call 15
         have K := evicted_any CB.out
         with_reducible refine K.mono ?_
         clear K
         rintro e wC ⟨rfl, rfl⟩
         rw [He8.out])
      | (go_at_call 28
         have K := drop_any CB.out 3
         with_reducible refine K.mono ?_
         clear K
         rintro e wD ⟨rfl, FD, cD, stD⟩
         rw [Hd8.out]
         have HkD := Lib.hid (one_key (CB.out.keep stD (by omega) (blk_in HbB.out Hg3.out)))
         have HbD := Lib.hid (B8.out.trans ((HbB.out.mono B8.out.size).trans (CB.out.toBelow stD)))
         clear cD stD))
  all_goals go_wp2
  all_goals go_ret
  all_goals exact ⟨rfl, HbW.out.trans (HbD.out.mono HbW.out.size)⟩
end Go.Proofs.Ytpdjfcnlbaaogaa
