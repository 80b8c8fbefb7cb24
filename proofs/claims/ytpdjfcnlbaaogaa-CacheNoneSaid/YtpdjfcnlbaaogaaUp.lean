/- The reference's Put. -/
import Derived.Test.YtpdjfcnlbaaogaaUa
import Derived.Test.YtpdjfcnlbaaogaaY
namespace Go.Proofs.Ytpdjfcnlbaaogaa
open Go.RowKit

theorem PixIn.frame {w w' : World} {F : Nat → Prop} {A : Option Addr} {n : Nat} {xs : List Mo.Px} (h : PixIn w A n xs) (hf : Fr w w' F) (hl : ∀ ad, A = some ad → xs ≠ [] → ¬ F ad.block) : PixIn w' A n xs :=
  ⟨h.len, h.room, h.none0, fun ad ha j u hu => by
    have h1 := h.cell ad ha j u hu
    have hx : xs ≠ [] := by rintro rfl; simp [flatP] at hu
    have hb := World.block_lt_of_cell? w _ h1
    have h2 := hf.block (ad.add j).block hb (by have := hl ad ha hx; unfold Addr.add; split <;> exact this)
    unfold World.cell? at h1 ⊢
    rw [h2]
    exact h1⟩

set_option linter.unusedSimpArgs false
set_option maxRecDepth 20000

theorem rput_none {w : World} {B p : Nat} {s : Mo.Ca} {F : Nat → Prop} (h : RAt w B p s F) (k : Mo.Ky) (i : Mo.Im) (A : Option Addr) (n c : Nat) (h0 : s.bud = 0) : Calls Try.prog 27 #[.pointer (some ⟨p, 0, none⟩), kv k, .agg #[.int .i64 i.w, .int .i64 i.h, .slice A n c]] w fun e w' => e = .returned (.tuple #[]) ∧ Below w.heap.size w w' := by
  obtain ⟨hok, hB, vk, vi, vs, hr, rfl⟩ := h
  obtain ⟨W, hW⟩ : ∃ W, W = (w.alloc (.cells #[.int .i64 k.node, .int .i64 k.stamp, .int .i64 k.level, .int .i64 k.x, .int .i64 k.y] 29)).alloc (.cells #[.int .i64 i.w, .int .i64 i.h, .slice A n c] 32) := ⟨_, rfl⟩
  have hbW : Below w.heap.size w W := by rw [hW]; exact (Below.alloc (Below.refl _ _) (Nat.le_refl _) _).alloc (by simp) _
  have h1 := hr.below hbW
  obtain ⟨c0, _, _, _, cm, _⟩ := blk5 h1.blk
  have HbW := Lib.hid hbW
  have HW := Lib.hid hW
  have hd : decide (s.bud = 0) = true := by simp [h0]
  clear hr h1 hbW hW
  unfold kv
  go_enter Try.func27, Try.ntmps27
  go_wp2_with fail
  rw [← HW.out]
  refine (rmade_is p true _ cm).mono ?_
  rintro e w1 ⟨rfl, rfl⟩
  go_wp2
  exact bodyPost_ret (v := .tuple #[]) (by simp [results, Try.results27, go_sem]) rfl ⟨rfl, HbW.out⟩

set_option maxHeartbeats 4000000 in
theorem rput_some {w : World} {B p : Nat} {s : Mo.Ca} {F : Nat → Prop} (h : RAt w B p s F) (k : Mo.Ky) (i : Mo.Im) (A : Option Addr) (n c : Nat) (h0 : s.bud ≠ 0) (hi : PixIn w A n i.pix) (hlow : ∀ ad, A = some ad → i.pix ≠ [] → ad.block < B) : Calls Try.prog 27 #[.pointer (some ⟨p, 0, none⟩), kv k, .agg #[.int .i64 i.w, .int .i64 i.h, .slice A n c]] w fun e w' => e = .returned (.tuple #[]) ∧ ∃ F', RAt w' B p (Mo.put k i s) F' ∧ Stp w w' F F' := by
  obtain ⟨hok, hB, vk, vi, vs, hr, rfl⟩ := h
  have hlen : s.l.length ≤ 4096 := by have := hok.len; have := hok.b1; omega
  have hpw := (Array.getElem?_eq_some_iff.1 hr.blk).1
  have hkw : ∀ b, vk.ownBlock = some b → B ≤ b ∧ b < w.heap.size := hr.ks.lt
  have hiw : ∀ b, vi.ownBlock = some b → B ≤ b ∧ b < w.heap.size := hr.is.lt
  obtain ⟨W, hW⟩ : ∃ W, W = (w.alloc (.cells #[.int .i64 k.node, .int .i64 k.stamp, .int .i64 k.level, .int .i64 k.x, .int .i64 k.y] 29)).alloc (.cells #[.int .i64 i.w, .int .i64 i.h, .slice A n c] 32) := ⟨_, rfl⟩
  have hbW : Below w.heap.size w W := by rw [hW]; exact (Below.alloc (Below.refl _ _) (Nat.le_refl _) _).alloc (by simp) _
  have hsW : W.heap.size = w.heap.size + 2 := by rw [hW]; simp
  have hkb : W.heap[w.heap.size]? = some (.cells #[.int .i64 k.node, .int .i64 k.stamp, .int .i64 k.level, .int .i64 k.x, .int .i64 k.y] 29 (0, 0)) := by rw [hW]; exact blk_alloc _ (blk_new w _)
  have hib : W.heap[w.heap.size + 1]? = some (.cells #[.int .i64 i.w, .int .i64 i.h, .slice A n c] 32 (0, 0)) := by rw [hW]; exact blk_at _ _ _ (by simp)
  have h1 := hr.below hbW
  obtain ⟨c0, _, _, _, cm, _⟩ := blk5 h1.blk
  have H1 := Lib.hid h1
  have HbW := Lib.hid hbW
  have HW := Lib.hid hW
  have Hkb := Lib.hid hkb
  have Hib := Lib.hid hib
  have Hi := Lib.hid hi
  have Hlow := Lib.hid hlow
  have Hkw := Lib.hid hkw
  have Hiw := Lib.hid hiw
  have hd : decide (s.bud = 0) = false := by simp [h0]
  obtain ⟨k0, k1, k2, k3, k4, _⟩ := blk5 hkb
  clear hr h1 hbW hW hi hlow hkw hiw hib hkb
  unfold kv
  go_enter Try.func27, Try.ntmps27
  go_wp2_with fail
  rw [← HW.out]
  refine (rmade_is p true _ cm).mono ?_
  rintro e w1 ⟨rfl, rfl⟩
  go_wp2_with fail
  have K := rremove_rep H1.out (Nat.le_trans hB HbW.out.size) hlen hok.nd k
  unfold kv at K
  with_reducible refine K.mono ?_
  clear K
  rintro e w3 ⟨rfl, ⟨vk3, vi3, vs3, h3, hk3, hi3⟩, hf3⟩
  have hnp3 : ∀ b, w.heap.size ≤ b → ¬ foot p [] b := by
    rintro b hb (h | h)
    · omega
    · simp at h
  have hs3 := hf3.size
  have hkb3 := (hf3.block _ (by omega) (hnp3 _ (Nat.le_refl _))).trans Hkb.out
  have hib3 := (hf3.block _ (by omega) (hnp3 _ (by omega))).trans Hib.out
  have hfw3 : Fr w w3 (foot p [vk.ownBlock, vi.ownBlock]) := (Fr.below HbW.out _).trans (hf3.mono foot_wide |> fun h => h)
  obtain ⟨s3, hs3e⟩ : ∃ s3, s3 = Mo.remove k s := ⟨_, rfl⟩
  rw [← hs3e] at h3
  have hok3 : Mo.Ok s3 := by rw [hs3e]; exact ok_remove hok k
  have hle3 : s3.l.length ≤ 4096 := by have := hok3.len; have := hok3.b1; omega
  obtain ⟨p0, p1, p2, p3, p4, z0, z1, z2, z3, z4⟩ := blk5 h3.blk
  clear k0 k1 k2 k3 k4
  obtain ⟨k0, k1, k2, k3, k4, _⟩ := blk5 hkb3
  obtain ⟨i0, i1, i2, _⟩ := blk3 hib3
  have hkn : ∀ b, vk3.ownBlock = some b → b ≠ w.heap.size ∧ b ≠ w.heap.size + 1 := fun b hb => by
    rcases hk3 b hb with h | h
    · have := (Hkw.out b h).2; omega
    · omega
  have hin : ∀ b, vi3.ownBlock = some b → b ≠ w.heap.size ∧ b ≠ w.heap.size + 1 := fun b hb => by
    rcases hi3 b hb with h | h
    · have := (Hiw.out b h).2; omega
    · omega
  have hkp : vk3.ownBlock ≠ some p := own_notblock h3.ks h3.blk (by decide)
  have hip : vi3.ownBlock ≠ some p := own_notblock h3.is h3.blk (by decide)
  have hk_kb : vk3.ownBlock ≠ some w.heap.size := fun e => (hkn _ e).1 rfl
  have hk_ib : vk3.ownBlock ≠ some (w.heap.size + 1) := fun e => (hkn _ e).2 rfl
  have hi_kb : vi3.ownBlock ≠ some w.heap.size := fun e => (hin _ e).1 rfl
  have hi_ib : vi3.ownBlock ≠ some (w.heap.size + 1) := fun e => (hin _ e).2 rfl
  have hne : vi3.ownBlock = none ∨ vi3.ownBlock ≠ vk3.ownBlock := by
    cases h5 : vi3.ownBlock with
    | none => exact .inl rfl
    | some b =>
      right
      intro h4
      obtain ⟨cs, hc⟩ := own_typed h3.is b h5
      obtain ⟨cs', hc'⟩ := own_typed h3.ks b h4.symm
      rw [hc] at hc'; simp at hc'
  obtain ⟨ji0, hi0', hz0, hz1, hz2⟩ := info_parts info29
  obtain ⟨jj0, hj0, hy0, hy1, hy2⟩ := info_parts info32
  have hlp : p < w3.heap.size := (Array.getElem?_eq_some_iff.1 h3.blk).1
  have hlk : w.heap.size < w3.heap.size := (Array.getElem?_eq_some_iff.1 hkb3).1
  have hli : w.heap.size + 1 < w3.heap.size := (Array.getElem?_eq_some_iff.1 hib3).1
  have hB3 : B ≤ w3.heap.size := Nat.le_trans h3.hp (by omega)
  have hst3 : ∀ b, foot p [vk3.ownBlock, vi3.ownBlock] b → foot p [vk.ownBlock, vi.ownBlock] b ∨ w.heap.size ≤ b := by
    rintro b (h | h)
    · exact .inl (.inl h)
    · simp only [List.mem_cons, List.not_mem_nil, or_false] at h
      rcases h with h | h
      · rcases hk3 b h.symm with h | h
        · exact .inl (.inr (by simp [h]))
        · exact .inr (by omega)
      · rcases hi3 b h.symm with h | h
        · exact .inl (.inr (by simp [h]))
        · exact .inr (by omega)
  have H3 := Lib.hid h3
  have Hks3 := Lib.hid h3.ks
  have His3 := Lib.hid h3.is
  have Hkb3 := Lib.hid hkb3
  have Hib3 := Lib.hid hib3
  have Hne := Lib.hid hne
  have Hk3 := Lib.hid hk3
  have Hi3 := Lib.hid hi3
  have Hst3 := Lib.hid (⟨hfw3, hst3⟩ : Stp w w3 (foot p [vk.ownBlock, vi.ownBlock]) (foot p [vk3.ownBlock, vi3.ownBlock]))
  have Hhk := Lib.hid (⟨hkp, hk_kb, hk_ib⟩ : vk3.ownBlock ≠ some p ∧ vk3.ownBlock ≠ some w.heap.size ∧ vk3.ownBlock ≠ some (w.heap.size + 1))
  have Hhi := Lib.hid (⟨hip, hi_kb, hi_ib⟩ : vi3.ownBlock ≠ some p ∧ vi3.ownBlock ≠ some w.heap.size ∧ vi3.ownBlock ≠ some (w.heap.size + 1))
  have Hs3e := Lib.hid hs3e
  clear h3 hkb3 hib3 hne hk3 hi3 hf3 hfw3 hst3 hs3e hkn hin hkp hk_kb hk_ib hip hi_kb hi_ib hnp3 p0 p1 p4 z0 z1 z4 c0 cm
  go_wp2_with fail
  have hSof : ∀ w' : World, (∀ b, b < w3.heap.size → vk3.ownBlock ≠ some b → vi3.ownBlock ≠ some b → w'.heap[b]? = w3.heap[b]?) → w'.cell? ⟨p, 2, none⟩ = some vk3 ∧ w'.cell? ⟨p, 3, none⟩ = some vi3 ∧ w'.cell? ⟨w.heap.size, 0, none⟩ = some (.int .i64 k.node) ∧ w'.cell? ⟨w.heap.size, 1, none⟩ = some (.int .i64 k.stamp) ∧ w'.cell? ⟨w.heap.size, 2, none⟩ = some (.int .i64 k.level) ∧ w'.cell? ⟨w.heap.size, 3, none⟩ = some (.int .i64 k.x) ∧ w'.cell? ⟨w.heap.size, 4, none⟩ = some (.int .i64 k.y) ∧ w'.cell? ⟨w.heap.size + 1, 0, none⟩ = some (.int .i64 i.w) ∧ w'.cell? ⟨w.heap.size + 1, 1, none⟩ = some (.int .i64 i.h) ∧ w'.cell? ⟨w.heap.size + 1, 2, none⟩ = some (.slice A n c) := by
    intro w' hh
    obtain ⟨_, _, b1, b2, _⟩ := blk5 ((hh p hlp Hhk.out.1 Hhi.out.1).trans H3.out.blk)
    obtain ⟨a0, a1, a2, a3, a4, _⟩ := blk5 ((hh w.heap.size hlk Hhk.out.2.1 Hhi.out.2.1).trans Hkb3.out)
    obtain ⟨c0, c1, c2, _⟩ := blk3 ((hh (w.heap.size + 1) hli Hhk.out.2.2 Hhi.out.2.2).trans Hib3.out)
    exact ⟨b1, b2, a0, a1, a2, a3, a4, c0, c1, c2⟩
  refine wp_region_T (D := fun j => decide (j < 17) && !(j == 1)) (S := fun w' => w'.cell? ⟨p, 2, none⟩ = some vk3 ∧ w'.cell? ⟨p, 3, none⟩ = some vi3 ∧ w'.cell? ⟨w.heap.size, 0, none⟩ = some (.int .i64 k.node) ∧ w'.cell? ⟨w.heap.size, 1, none⟩ = some (.int .i64 k.stamp) ∧ w'.cell? ⟨w.heap.size, 2, none⟩ = some (.int .i64 k.level) ∧ w'.cell? ⟨w.heap.size, 3, none⟩ = some (.int .i64 k.x) ∧ w'.cell? ⟨w.heap.size, 4, none⟩ = some (.int .i64 k.y) ∧ w'.cell? ⟨w.heap.size + 1, 0, none⟩ = some (.int .i64 i.w) ∧ w'.cell? ⟨w.heap.size + 1, 1, none⟩ = some (.int .i64 i.h) ∧ w'.cell? ⟨w.heap.size + 1, 2, none⟩ = some (.slice A n c)) (by kernel_rfl) ?_
  have hS0 : (fun w' : World => w'.cell? ⟨p, 2, none⟩ = some vk3 ∧ w'.cell? ⟨p, 3, none⟩ = some vi3 ∧ w'.cell? ⟨w.heap.size, 0, none⟩ = some (.int .i64 k.node) ∧ w'.cell? ⟨w.heap.size, 1, none⟩ = some (.int .i64 k.stamp) ∧ w'.cell? ⟨w.heap.size, 2, none⟩ = some (.int .i64 k.level) ∧ w'.cell? ⟨w.heap.size, 3, none⟩ = some (.int .i64 k.x) ∧ w'.cell? ⟨w.heap.size, 4, none⟩ = some (.int .i64 k.y) ∧ w'.cell? ⟨w.heap.size + 1, 0, none⟩ = some (.int .i64 i.w) ∧ w'.cell? ⟨w.heap.size + 1, 1, none⟩ = some (.int .i64 i.h) ∧ w'.cell? ⟨w.heap.size + 1, 2, none⟩ = some (.slice A n c)) { w3 with drawn := w3.drawn + 1 } := ⟨p2, p3, k0, k1, k2, k3, k4, i0, i1, i2⟩
  refine wpT_free_take (i := 1) (v := .pointer (some ⟨p, 0, none⟩)) rfl (by rfl) (by decide +kernel) (by decide +kernel) (by decide +kernel) (fun _ _ _ h => h) (Or.inl ⟨by rfl, by intro w hSw; go_simp⟩) ?_
  simp only [Act.put, List.setIfInBounds_toArray, List.set_cons_zero, List.set_cons_succ]
  refine wpT_take (i := 0) (v := .pointer (some ⟨p, 0, none⟩)) [] rfl (by decide +kernel) (by decide +kernel) (by decide +kernel) (by decide +kernel) (by decide +kernel) (fun _ _ _ h => h) (Or.inl ⟨by rfl, by intro w hSw; go_simp⟩) hS0 ?_
  simp only [Act.put, List.setIfInBounds_toArray, List.set_cons_zero, List.set_cons_succ]
  refine wpT_take (i := 2) (v := .pointer (some ⟨p, 0, none⟩)) [] rfl (by decide +kernel) (by decide +kernel) (by decide +kernel) (by decide +kernel) (by decide +kernel) (fun _ _ _ h => h) (Or.inl ⟨by rfl, by intro w hSw; go_simp⟩) hS0 ?_
  simp only [Act.put, List.setIfInBounds_toArray, List.set_cons_zero, List.set_cons_succ]
  refine wpT_take (i := 3) (v := .pointer (some ⟨p, 0, none⟩)) [] rfl (by decide +kernel) (by decide +kernel) (by decide +kernel) (by decide +kernel) (by decide +kernel) (fun _ _ _ h => h) (Or.inl ⟨by rfl, by intro w hSw; go_simp⟩) hS0 ?_
  simp only [Act.put, List.setIfInBounds_toArray, List.set_cons_zero, List.set_cons_succ]
  refine wpT_take (i := 4) (v := .pointer (some ⟨p, 2, none⟩)) [] rfl (by decide +kernel) (by decide +kernel) (by decide +kernel) (by decide +kernel) (by decide +kernel) (fun _ _ _ h => h) (Or.inl ⟨by rfl, by intro w hSw; go_simp⟩) hS0 ?_
  simp only [Act.put, List.setIfInBounds_toArray, List.set_cons_zero, List.set_cons_succ]
  refine wpT_take (i := 5) (v := vk3) [] rfl (by decide +kernel) (by decide +kernel) (by decide +kernel) (by decide +kernel) (by decide +kernel) (fun _ _ _ h => h) (Or.inl ⟨by rfl, by intro w hSw; obtain ⟨g1, g2, g3, g4, g5, g6, g7, g8, g9, g10⟩ := hSw; go_simp⟩) hS0 ?_
  simp only [Act.put, List.setIfInBounds_toArray, List.set_cons_zero, List.set_cons_succ]
  refine wpT_take (i := 6) (v := .agg #[.int .i64 k.node, .int .i64 k.stamp, .int .i64 k.level, .int .i64 k.x, .int .i64 k.y]) [] rfl (by decide +kernel) (by decide +kernel) (by decide +kernel) (by decide +kernel) (by decide +kernel) (fun _ _ _ h => h) (Or.inl ⟨by rfl, by intro w hSw; obtain ⟨g1, g2, g3, g4, g5, g6, g7, g8, g9, g10⟩ := hSw; go_simp⟩) hS0 ?_
  simp only [Act.put, List.setIfInBounds_toArray, List.set_cons_zero, List.set_cons_succ]
  refine wpT_take (i := 9) (v := .pointer (some ⟨p, 0, none⟩)) [10, 11, 12] rfl (by decide +kernel) (by decide +kernel) (by decide +kernel) (by decide +kernel) (by decide +kernel) (fun _ _ _ h => h) (Or.inl ⟨by rfl, by intro w hSw; go_simp⟩) hS0 ?_
  simp only [Act.put, List.setIfInBounds_toArray, List.set_cons_zero, List.set_cons_succ]
  refine wpT_take (i := 10) (v := .pointer (some ⟨p, 0, none⟩)) [11, 12] rfl (by decide +kernel) (by decide +kernel) (by decide +kernel) (by decide +kernel) (by decide +kernel) (fun _ _ _ h => h) (Or.inl ⟨by rfl, by intro w hSw; go_simp⟩) hS0 ?_
  simp only [Act.put, List.setIfInBounds_toArray, List.set_cons_zero, List.set_cons_succ]
  refine wpT_take (i := 11) (v := .pointer (some ⟨p, 3, none⟩)) [12] rfl (by decide +kernel) (by decide +kernel) (by decide +kernel) (by decide +kernel) (by decide +kernel) (fun _ _ _ h => h) (Or.inl ⟨by rfl, by intro w hSw; go_simp⟩) hS0 ?_
  simp only [Act.put, List.setIfInBounds_toArray, List.set_cons_zero, List.set_cons_succ]
  refine wpT_take (i := 12) (v := vi3) [] rfl (by decide +kernel) (by decide +kernel) (by decide +kernel) (by decide +kernel) (by decide +kernel) (fun _ _ _ h => h) (Or.inl ⟨by rfl, by intro w hSw; obtain ⟨g1, g2, g3, g4, g5, g6, g7, g8, g9, g10⟩ := hSw; go_simp⟩) hS0 ?_
  simp only [Act.put, List.setIfInBounds_toArray, List.set_cons_zero, List.set_cons_succ]
  refine wpT_take (i := 13) (v := .agg #[.int .i64 i.w, .int .i64 i.h, .slice A n c]) [14, 15] rfl (by decide +kernel) (by decide +kernel) (by decide +kernel) (by decide +kernel) (by decide +kernel) (fun _ _ _ h => h) (Or.inl ⟨by rfl, by intro w hSw; obtain ⟨g1, g2, g3, g4, g5, g6, g7, g8, g9, g10⟩ := hSw; go_simp⟩) hS0 ?_
  simp only [Act.put, List.setIfInBounds_toArray, List.set_cons_zero, List.set_cons_succ]
  refine wpT_ready (rs := [7]) (by decide +kernel) (by simp) ?_
  refine AllT.cons rfl (fun K hK => ?_) AllT.nil
  go_simp
  refine hK.out _ _ (fun _ => ?_) ?_
  · exact hSof _ (fun b hb hn hn2 => Below.block (w := w3) (B := w3.heap.size) (by repeat (first | exact Below.refl _ _ | refine Below.drew ?_ | refine Below.alloc ?_ (by first | (simp; done) | (simp; omega)) _)) b hb)
  try simp only [Act.put, List.setIfInBounds_toArray, List.set_cons_zero, List.set_cons_succ]
  refine wpT_ready (rs := [8]) (by decide +kernel) (by simp) ?_
  refine AllT.cons rfl (fun K hK => ?_) AllT.nil
  refine step_appK (by rfl) (.tmp 24) (.tmp 26) 36 (by rfl) 29 5 40 ji0 _ Try.underlying36 hi0' hz0 hz1 hz2 rfl (by omega) (by omega) B vk3 s3.l.length (flatK (s3.l.map (·.1))) (by rfl) _ (kcells k) (by rfl) (own_below Hks3.out (by repeat (first | exact Below.refl _ _ | refine Below.drew ?_ | refine Below.alloc ?_ (by first | (simp; done) | (simp; omega)) _))) (by rfl) (World.news_of_block (cs := (kcells k).toArray) (blk_at _ _ _ (by simp))) (by simp [Value.oneCell', kcells]) (by omega) (by first | omega | (simp; done) | (simp; omega)) ?_
  intro gk1 cap1 w4 hown1 hgrow1 hat1
  have hsz1 := hgrow1.size
  (try simp only [World.size_alloc, World.size_drew] at hsz1)
  have hat1' : vk3.ownBlock = some gk1 ∨ w3.heap.size ≤ gk1 := by
    rcases hat1 with h | h
    · exact .inl h
    · (try simp at h); exact .inr (by omega)
  have hb34 := hgrow1.block
  have he4 : ∀ b : Nat, b < w3.heap.size → vk3.ownBlock ≠ some b → w4.heap[b]? = w3.heap[b]? := fun b hb hn => (hgrow1.block b (by first | omega | (simp; done) | (simp; omega)) (Ne.symm hn)).trans ((Below.block (w := w3) (B := w3.heap.size) (by repeat (first | exact Below.refl _ _ | refine Below.drew ?_ | refine Below.alloc ?_ (by first | (simp; done) | (simp; omega)) _)) b hb))
  have hf4 : Fr w3 w4 (foot p [vk3.ownBlock, vi3.ownBlock]) := Fr.grown (F := foot p [vk3.ownBlock, vi3.ownBlock]) (Fr.below (w := w3) (by repeat (first | exact Below.refl _ _ | refine Below.drew ?_ | refine Below.alloc ?_ (by first | (simp; done) | (simp; omega)) _)) _) hgrow1 (fun b hb => .inl (.inr (by simp [hb])))
  have hio1 := (own_below His3.out (by repeat (first | exact Below.refl _ _ | refine Below.drew ?_ | refine Below.alloc ?_ (by first | (simp; done) | (simp; omega)) _))).kept hgrow1 Hne.out
  have hpx4 : PixIn w4 A n i.pix := Hi.out.frame (Stp.trans Hst3.out ⟨hf4, fun _ h => .inl h⟩).1 (fun ad ha hx hF => by
    have h1 := Hlow.out ad ha hx
    rcases hF with h | h
    · have := H3.out.hp; omega
    · simp only [List.mem_cons, List.not_mem_nil, or_false] at h
      rcases h with h | h
      · have := (Hkw.out _ h.symm).1; omega
      · have := (Hiw.out _ h.symm).1; omega)
  have Hpx4 := Lib.hid hpx4
  have Hio1 := Lib.hid hio1
  have He4 := Lib.hid he4
  have Hf4 := Lib.hid hf4
  have Hown1 := Lib.hid hown1
  have Hat1 := Lib.hid hat1'
  clear hgrow1 hown1 hpx4 hio1 he4 hf4 hat1 hat1' hb34
  refine hK.out _ _ (fun _ => ?_) ?_
  · exact hSof _ (fun b hb hn hn2 => He4.out b hb hn)
  try simp only [Act.put, List.setIfInBounds_toArray, List.set_cons_zero, List.set_cons_succ]
  refine wpT_ready (rs := [14]) (by decide +kernel) (by simp) ?_
  refine AllT.cons rfl (fun K hK => ?_) AllT.nil
  go_simp
  have K5 := rcopied_in A n c i w4 Hpx4.out
  with_reducible refine K5.mono ?_
  clear K5
  rintro e w5 ⟨v', rfl, him5, hb5⟩
  obtain ⟨vp', rfl, hvo5⟩ := him5
  obtain ⟨A5, c5, rfl⟩ := own_slice hvo5
  have hsz5 := hb5.size
  have him5 : ImIs w5 B (.agg #[.int .i64 i.w, .int .i64 i.h, .slice A5 i.pix.length c5]) i := ⟨_, rfl, own_lower hvo5 (by omega)⟩
  have Him5 := Lib.hid him5
  have Hb5 := Lib.hid hb5
  have He5 := Lib.hid (fun (b : Nat) (hb : b < w3.heap.size) (hn : vk3.ownBlock ≠ some b) => (hb5.block b (by omega)).trans (He4.out b hb hn))
  clear hvo5 him5 hb5
  refine hK.out _ _ (fun _ => ?_) ?_
  · exact hSof _ (fun b hb hn hn2 => He5.out b hb hn)
  try simp only [Act.put, List.setIfInBounds_toArray, List.set_cons_zero, List.set_cons_succ]
  refine wpT_ready (rs := [15]) (by decide +kernel) (by simp) ?_
  refine AllT.cons rfl (fun K hK => ?_) AllT.nil
  go_simp
  refine hK.out _ _ (fun _ => ?_) ?_
  · exact hSof _ (fun b hb hn hn2 => (Below.block (w := w5) (B := w5.heap.size) (by repeat (first | exact Below.refl _ _ | refine Below.drew ?_ | refine Below.alloc ?_ (by first | (simp; done) | (simp; omega)) _)) b (by omega)).trans (He5.out b hb hn))
  try simp only [Act.put, List.setIfInBounds_toArray, List.set_cons_zero, List.set_cons_succ]
  refine wpT_ready (rs := [16]) (by decide +kernel) (by simp) ?_
  refine AllT.cons rfl (fun K hK => ?_) AllT.nil
  refine step_appK (by rfl) (.tmp 31) (.tmp 34) 48 (by rfl) 32 3 40 jj0 _ Try.underlying48 hj0 hy0 hy1 hy2 rfl (by omega) (by omega) B vi3 s3.l.length (flatI vs3) (by rfl) _ [.int .i64 i.w, .int .i64 i.h, .slice A5 i.pix.length c5] (by rfl) (own_below (own_below Hio1.out Hb5.out) (by repeat (first | exact Below.refl _ _ | refine Below.drew ?_ | refine Below.alloc ?_ (by first | (simp; done) | (simp; omega)) _))) (by rfl) (World.news_of_block (cs := #[.int .i64 i.w, .int .i64 i.h, .slice A5 i.pix.length c5]) (blk_at _ _ _ (by simp))) (by simp [Value.oneCell']) (by omega) (by first | omega | (simp; done) | (simp; omega)) ?_
  intro gi2 cap2 w6 hown2 hgrow2 hat2
  have hsz6 := hgrow2.size
  (try simp only [World.size_alloc, World.size_drew] at hsz6)
  have hat2' : vi3.ownBlock = some gi2 ∨ w5.heap.size ≤ gi2 := by
    rcases hat2 with h | h
    · exact .inl h
    · (try simp at h); exact .inr (by omega)
  have hp4 := (He4.out p hlp Hhk.out.1).trans H3.out.blk
  have hp5 := blk_in Hb5.out hp4
  have hp6 := (hgrow2.block p (by first | omega | (simp; done) | (simp; omega)) (Ne.symm Hhi.out.1)).trans (blk_in (w := w5) (by repeat (first | exact Below.refl _ _ | refine Below.drew ?_ | refine Below.alloc ?_ (by first | (simp; done) | (simp; omega)) _)) hp5)
  have he6 : ∀ b : Nat, b < w3.heap.size → vk3.ownBlock ≠ some b → vi3.ownBlock ≠ some b → w6.heap[b]? = w3.heap[b]? := fun b hb hn hn2 => ((hgrow2.block b (by first | omega | (simp; done) | (simp; omega)) (Ne.symm hn2)).trans ((Below.block (w := w5) (B := w5.heap.size) (by repeat (first | exact Below.refl _ _ | refine Below.drew ?_ | refine Below.alloc ?_ (by first | (simp; done) | (simp; omega)) _)) b (by omega)))).trans (He5.out b hb hn)
  obtain ⟨_, _, xx2, xx3, _, _, _, yy2, yy3, _⟩ := blk5 hp6
  have hf5 : Fr w3 w5 (foot p [vk3.ownBlock, vi3.ownBlock]) := Hf4.out.trans (Fr.below Hb5.out _)
  have hf56' : Fr w5 w6 (fun b => vi3.ownBlock = some b) := Fr.grown (F := fun b => vi3.ownBlock = some b) (Fr.below (w := w5) (by repeat (first | exact Below.refl _ _ | refine Below.drew ?_ | refine Below.alloc ?_ (by first | (simp; done) | (simp; omega)) _)) _) hgrow2 (fun b hb => .inl hb)
  have hf56 : Fr w5 w6 (foot p [vk3.ownBlock, vi3.ownBlock]) := hf56'.mono (fun b hb => .inr (by simp [hb]))
  have hio5 := own_below Hio1.out Hb5.out
  have hk5 := own_below Hown1.out Hb5.out
  have hne2 : (Value.slice (some ⟨gk1, 0, none⟩) (s3.l.length + 1) cap1).ownBlock ≠ vi3.ownBlock := by
    intro h
    obtain ⟨cs, hc⟩ := own_typed hk5 gk1 rfl
    obtain ⟨cs', hc'⟩ := own_typed hio5 gk1 h.symm
    rw [hc] at hc'; simp at hc'
  have hk6 := (own_below hk5 (by repeat (first | exact Below.refl _ _ | refine Below.drew ?_ | refine Below.alloc ?_ (by first | (simp; done) | (simp; omega)) _))).kept hgrow2 (.inr hne2)
  have him6 := Him5.out.frame hf56' (fun b hF => by
    obtain ⟨cs', hc'⟩ := own_typed hio5 b hF
    intro cs fr hc; rw [hc'] at hc; simp at hc)
  have Hown2 := Lib.hid hown2
  have Hk6 := Lib.hid hk6
  have Hp6 := Lib.hid hp6
  have Him6 := Lib.hid him6
  have Hf6 := Lib.hid (hf5.trans hf56)
  have He6 := Lib.hid he6
  have Hat2 := Lib.hid hat2'
  clear hgrow2 hown2 hp4 hp5 hp6 he6 hf5 hf56 hf56' hio5 hk5 hne2 hk6 him6 hat2 hat2'
  refine hK.out _ _ (fun _ => ?_) ?_
  · exact hSof _ He6.out
  try simp only [Act.put, List.setIfInBounds_toArray, List.set_cons_zero, List.set_cons_succ]
  refine wpT_free_take (i := 17) (v := .pointer (some ⟨p, 0, none⟩)) rfl (by rfl) (by decide +kernel) (by decide +kernel) (by decide +kernel) (fun _ _ _ h => h) (Or.inl ⟨by rfl, by intro w hSw; go_simp⟩) ?_
  simp only [Act.put, List.setIfInBounds_toArray, List.set_cons_zero, List.set_cons_succ]
  refine wpT_free_take (i := 18) (v := .pointer (some ⟨p, 2, none⟩)) rfl (by rfl) (by decide +kernel) (by decide +kernel) (by decide +kernel) (fun _ _ _ h => h) (Or.inl ⟨by rfl, by intro w hSw; go_simp⟩) ?_
  simp only [Act.put, List.setIfInBounds_toArray, List.set_cons_zero, List.set_cons_succ]
  refine wpT_ready (rs := [19]) (by decide +kernel) (by simp) ?_
  refine AllT.cons rfl (fun K hK => ?_) AllT.nil
  go_simp
  refine hK.out _ _ (fun h => absurd h (by decide)) ?_
  try simp only [Act.put, List.setIfInBounds_toArray, List.set_cons_zero, List.set_cons_succ]
  refine wpT_free_take (i := 20) (v := .pointer (some ⟨p, 0, none⟩)) rfl (by rfl) (by decide +kernel) (by decide +kernel) (by decide +kernel) (fun _ _ _ h => h) (Or.inl ⟨by rfl, by intro w hSw; go_simp⟩) ?_
  simp only [Act.put, List.setIfInBounds_toArray, List.set_cons_zero, List.set_cons_succ]
  refine wpT_free_take (i := 21) (v := .pointer (some ⟨p, 3, none⟩)) rfl (by rfl) (by decide +kernel) (by decide +kernel) (by decide +kernel) (fun _ _ _ h => h) (Or.inl ⟨by rfl, by intro w hSw; go_simp⟩) ?_
  simp only [Act.put, List.setIfInBounds_toArray, List.set_cons_zero, List.set_cons_succ]
  refine wpT_ready (rs := [22]) (by decide +kernel) (by simp) ?_
  refine AllT.cons rfl (fun K hK => ?_) AllT.nil
  go_simp
  refine hK.out _ _ (fun h => absurd h (by decide)) ?_
  try simp only [Act.put, List.setIfInBounds_toArray, List.set_cons_zero, List.set_cons_succ]
  refine wpT_done (by decide +kernel) ?_ _
  obtain ⟨W7, hW7⟩ : ∃ W7, W7 = (w6.setCell ⟨p, 2, none⟩ (.slice (some ⟨gk1, 0, none⟩) (s3.l.length + 1) cap1)).setCell ⟨p, 3, none⟩ (.slice (some ⟨gi2, 0, none⟩) (s3.l.length + 1) cap2) := ⟨_, rfl⟩
  rw [← hW7]
  obtain ⟨hrr, hfr7, _, _, hsz7⟩ := appended H3.out k i i.w i.h A5 i.pix.length c5 Him6.out Hp6.out Hk6.out Hown2.out Hf6.out hW7
  have hgk : ∀ b, (Value.slice (some ⟨gk1, 0, none⟩) (s3.l.length + 1) cap1).ownBlock = some b → vk.ownBlock = some b ∨ w.heap.size ≤ b := by
    intro b hb
    simp only [Value.ownBlock, Option.some.injEq] at hb
    subst hb
    rcases Hat1.out with h | h
    · rcases Hk3.out _ h with h | h
      · exact .inl h
      · exact .inr (by omega)
    · exact .inr (by omega)
  have hgi : ∀ b, (Value.slice (some ⟨gi2, 0, none⟩) (s3.l.length + 1) cap2).ownBlock = some b → vi.ownBlock = some b ∨ w.heap.size ≤ b := by
    intro b hb
    simp only [Value.ownBlock, Option.some.injEq] at hb
    subst hb
    rcases Hat2.out with h | h
    · rcases Hi3.out _ h with h | h
      · exact .inl h
      · exact .inr (by omega)
    · exact .inr (by omega)
  have hszw : w.heap.size ≤ W7.heap.size := by omega
  have Hrr := Lib.hid hrr
  have Hfw7 := Lib.hid (Stp.trans Hst3.out ⟨hfr7, fun _ h => .inl h⟩).1
  have Hgk := Lib.hid hgk
  have Hgi := Lib.hid hgi
  have hle4 : (s3.l ++ [(k, i)]).length ≤ 4096 := by
    have := hok3.len
    have := hok3.b1
    simp; omega
  have hb0 : 0 ≤ s3.bud := hok3.b0
  clear hW7 hrr hfr7 hgk hgi Hp6 Hk6 Him6 Hown2 Hf6 He6 Hat1 Hat2 hK k0 k1 k2 k3 k4 i0 i1 i2 p2 p3 z2 z3 xx2 xx3 yy2 yy3 hSof hS0
  go_wp2_with fail
  have K := shrink_rep Hrr.out (Nat.le_trans hB hszw) hle4 hb0
  with_reducible refine K.mono ?_
  clear K
  rintro e w8 ⟨rfl, ⟨vk8, vi8, vs8, h8, hk8, hi8⟩, hf8⟩
  go_wp2
  have hput : Mo.put k i s = Mo.shrink { s3 with l := s3.l ++ [(k, i)] } := by
    unfold Mo.put
    rw [if_neg h0, Hs3e.out]
    rfl
  have hfin : ∃ F', RAt w8 B p (Mo.put k i s) F' ∧ Stp w w8 (foot p [vk.ownBlock, vi.ownBlock]) F' := by
    refine RAt.of (ok_put hok k i) (Nat.le_trans hB (Nat.le_trans hszw hf8.size)) ⟨vk8, vi8, vs8, hput ▸ h8, fun b hb => ?_, fun b hb => ?_⟩ (Hfw7.out.trans (hf8.mono foot_wide))
    · rcases hk8 b hb with h | h
      · exact Hgk.out b h
      · exact .inr (by omega)
    · rcases hi8 b hb with h | h
      · exact Hgi.out b h
      · exact .inr (by omega)
  exact bodyPost_end (by simp [results, Try.results27, go_sem]) rfl ⟨rfl, hfin⟩

theorem rput_any {w : World} {B p : Nat} {s : Mo.Ca} {F : Nat → Prop} (h : RAt w B p s F) (k : Mo.Ky) (i : Mo.Im) (A : Option Addr) (n c : Nat) (hi : PixIn w A n i.pix) (hlow : ∀ ad, A = some ad → i.pix ≠ [] → ad.block < B) : Calls Try.prog 27 #[.pointer (some ⟨p, 0, none⟩), kv k, .agg #[.int .i64 i.w, .int .i64 i.h, .slice A n c]] w fun e w' => e = .returned (.tuple #[]) ∧ ∃ F', RAt w' B p (Mo.put k i s) F' ∧ Stp w w' F F' := by
  by_cases h0 : s.bud = 0
  · refine (rput_none h k i A n c h0).mono ?_
    rintro e w' ⟨rfl, hb⟩
    refine ⟨rfl, F, ?_, Stp.below hb F⟩
    unfold Mo.put
    rw [if_pos h0]
    exact h.below hb
  · exact rput_some h k i A n c h0 hi hlow
end Go.Proofs.Ytpdjfcnlbaaogaa
