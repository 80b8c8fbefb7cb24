/- The reference's Get. -/
import Derived.Test.YtpdjfcnlbaaogaaT
import Derived.Test.YtpdjfcnlbaaogaaTk
import Derived.Test.YtpdjfcnlbaaogaaUa
namespace Go.Proofs.Ytpdjfcnlbaaogaa
open Go.RowKit

theorem RRep.drewN {w : World} {B p : Nat} {s : Mo.Ca} {vk vi : Value} {vs : List Value} (h : RRep w B p s vk vi vs) (n : Nat) : RRep (w.drewN n) B p s vk vi vs :=
  h.below ⟨rfl, rfl, rfl, Nat.le_refl _, fun _ _ => rfl⟩

theorem rget_no {w : World} {B p : Nat} {s : Mo.Ca} {F : Nat → Prop} (h : RAt w B p s F) (k : Mo.Ky) (hk : Mo.look k s.l = none) : Calls Try.prog 25 #[.pointer (some ⟨p, 0, none⟩), kv k] w fun e w' => e = .returned (.tuple #[zeroIm, .bool false]) ∧ Below w.heap.size w w' := by
  obtain ⟨hok, hB, vk, vi, vs, hr, rfl⟩ := h
  have hlen : s.l.length ≤ 4096 := by have := hok.len; have := hok.b1; omega
  obtain ⟨W, hW⟩ : ∃ W, W = (w.alloc (.cells #[.int .i64 k.node, .int .i64 k.stamp, .int .i64 k.level, .int .i64 k.x, .int .i64 k.y] 29)).alloc (.cells #[.int .i64 0, .int .i64 0, .slice none 0 0] 32) := ⟨_, rfl⟩
  have hbW : Below w.heap.size w W := by rw [hW]; exact (Below.alloc (Below.refl _ _) (Nat.le_refl _) _).alloc (by simp) _
  have hkb : W.heap[w.heap.size]? = some (.cells #[.int .i64 k.node, .int .i64 k.stamp, .int .i64 k.level, .int .i64 k.x, .int .i64 k.y] 29 (0, 0)) := by rw [hW]; exact blk_alloc _ (blk_new w _)
  have hrb : W.heap[w.heap.size + 1]? = some (.cells #[.int .i64 0, .int .i64 0, .slice none 0 0] 32 (0, 0)) := by rw [hW]; exact blk_at _ _ _ (by simp)
  have h1 := hr.below hbW
  have cm := (blk5 h1.blk).2.2.2.2.1
  have hl : s.l.length = (s.l.map (·.1)).length := by simp
  have hks := h1.ks
  rw [hl] at hks
  have hpos : posn k (s.l.map (·.1)) = -1 := by
    rcases posn_neg k s.l with ⟨h, _⟩ | ⟨i, h⟩
    · exact h
    · obtain ⟨_, _, im, _, h2⟩ := eraseIdx_rm k s.l hok.nd i h
      rw [hk] at h2; simp at h2
  have H1 := Lib.hid h1
  have HbW := Lib.hid hbW
  have HW := Lib.hid hW
  have Hks := Lib.hid hks
  have Hpos := Lib.hid hpos
  have Hrb := Lib.hid hrb
  clear hr h1 hbW hW hl hks hpos hrb
  unfold kv
  go_enter Try.func25, Try.ntmps25
  go_wp2_with fail
  rw [← HW.out]
  refine (rmade_is p true _ cm).mono ?_
  rintro e w1 ⟨rfl, rfl⟩
  obtain ⟨k0, k1, k2, k3, k4, _⟩ := blk5 hkb
  go_wp2_with fail
  refine (place_any _ _ vk vi _ (s.l.map (·.1)) k H1.out.blk Hks.out (by simp; omega)).mono ?_
  rintro e w2 ⟨he, hb2⟩
  rw [Hpos.out] at he
  subst he
  obtain ⟨r0, r1, r2, y0, y1, y2⟩ := blk3 (blk_in hb2 Hrb.out)
  have hsw := hb2.size
  have hsw2 := (Array.getElem?_eq_some_iff.1 Hrb.out).1
  go_wp2
  refine bodyPost_ret (v := .tuple #[zeroIm, .bool false]) (by simp [results, Try.results25, go_sem, zeroIm, *]) rfl ⟨rfl, ?_⟩
  refine Below.setCell (Below.setCell (Below.setCell ?_ ?_ _) ?_ _) ?_ _
  · exact HbW.out.trans (hb2.mono HbW.out.size)
  all_goals simp

set_option linter.unusedSimpArgs false
set_option maxRecDepth 20000
set_option maxHeartbeats 4000000 in
theorem rget_yes {w : World} {B p : Nat} {s : Mo.Ca} {F : Nat → Prop} (h : RAt w B p s F) (k : Mo.Ky) (im : Mo.Im) (hk : Mo.look k s.l = some im) (hpx : im.pix.length * 32 ≤ 140737488355328) : Calls Try.prog 25 #[.pointer (some ⟨p, 0, none⟩), kv k] w fun e w' => ∃ v', e = .returned (.tuple #[v', .bool true]) ∧ ImIs w' w.heap.size v' im ∧ ∃ F', RAt w' B p (Mo.use k im s) F' ∧ Stp w w' F F' := by
  obtain ⟨hok, hB, vk, vi, vs, hr, rfl⟩ := h
  have hlen : s.l.length ≤ 4096 := by have := hok.len; have := hok.b1; omega
  have hpw := (Array.getElem?_eq_some_iff.1 hr.blk).1
  have hkw : ∀ b, vk.ownBlock = some b → b < w.heap.size := fun b hb => (hr.ks.lt b hb).2
  have hiw : ∀ b, vi.ownBlock = some b → b < w.heap.size := fun b hb => (hr.is.lt b hb).2
  obtain ⟨W, hW⟩ : ∃ W, W = (w.alloc (.cells #[.int .i64 k.node, .int .i64 k.stamp, .int .i64 k.level, .int .i64 k.x, .int .i64 k.y] 29)).alloc (.cells #[.int .i64 0, .int .i64 0, .slice none 0 0] 32) := ⟨_, rfl⟩
  have hbW : Below w.heap.size w W := by rw [hW]; exact (Below.alloc (Below.refl _ _) (Nat.le_refl _) _).alloc (by simp) _
  have hkb : W.heap[w.heap.size]? = some (.cells #[.int .i64 k.node, .int .i64 k.stamp, .int .i64 k.level, .int .i64 k.x, .int .i64 k.y] 29 (0, 0)) := by rw [hW]; exact blk_alloc _ (blk_new w _)
  have hrb : W.heap[w.heap.size + 1]? = some (.cells #[.int .i64 0, .int .i64 0, .slice none 0 0] 32 (0, 0)) := by rw [hW]; exact blk_at _ _ _ (by simp)
  have h1 := hr.below hbW
  have cm := (blk5 h1.blk).2.2.2.2.1
  have hl : s.l.length = (s.l.map (·.1)).length := by simp
  have hks := h1.ks
  rw [hl] at hks
  obtain ⟨i, hpos⟩ : ∃ i : Nat, posn k (s.l.map (·.1)) = i := by
    rcases posn_neg k s.l with ⟨_, h, _⟩ | h
    · rw [hk] at h; simp at h
    · exact h
  obtain ⟨hrm, hi, im', hget, hlk⟩ := eraseIdx_rm k s.l hok.nd i hpos
  obtain rfl : im' = im := by rw [hk] at hlk; simpa using hlk.symm
  have H1 := Lib.hid h1
  have HbW := Lib.hid hbW
  have HW := Lib.hid hW
  have Hks := Lib.hid hks
  have Hpos := Lib.hid hpos
  have Hrb := Lib.hid hrb
  have Hrm := Lib.hid hrm
  have Hget := Lib.hid hget
  have Hlk := Lib.hid hk
  clear hr h1 hbW hW hl hks hpos hrb hrm hget hlk hk
  unfold kv
  go_enter Try.func25, Try.ntmps25
  go_wp2_with fail
  rw [← HW.out]
  refine (rmade_is p true _ cm).mono ?_
  rintro e w1 ⟨rfl, rfl⟩
  obtain ⟨k0, k1, k2, k3, k4, _⟩ := blk5 hkb
  have Hkb := Lib.hid hkb
  go_wp2_with fail
  refine (place_any _ _ vk vi _ (s.l.map (·.1)) k H1.out.blk Hks.out (by simp; omega)).mono ?_
  rintro e w2 ⟨he, hb2⟩
  rw [Hpos.out] at he
  subst he
  -- the image at place i
  have h2 := H1.out.below hb2
  have hiv : i < vs.length := by rw [h2.len]; exact hi
  obtain ⟨vp, hvp, hvo⟩ := h2.im i vs[i] im' (List.getElem?_eq_getElem hiv) (by rw [List.getElem?_map, Hget.out]; rfl)
  obtain ⟨A, c, rfl⟩ := own_slice hvo
  obtain ⟨Ai, ci, rfl⟩ := own_slice h2.is
  obtain ⟨gi, rfl⟩ : ∃ g, Ai = some ⟨g, 0, none⟩ := by
    rcases h2.is.2 with ⟨h, h1⟩ | ⟨g, cap, cur, he, _⟩
    · omega
    · simp at he; exact ⟨g, he.1⟩
  have his := h2.is
  rw [← h2.len] at his
  obtain ⟨q0, q1, q2⟩ := own_im his h2.im3 i hiv im'.w im'.h A im'.pix.length c hvp
  obtain ⟨_, _, _, c3, _⟩ := blk5 h2.blk
  have hiI : (i : Int) < (s.l.length : Int) := by omega
  have hs2 := hb2.size
  have H2 := Lib.hid h2
  have Hvo := Lib.hid hvo
  have Hvp := Lib.hid hvp
  clear h2 his hvo hvp k0 k1 k2 k3 k4 cm hkb
  go_wp2_with fail
  have hal2 : Below w2.heap.size w2 (w2.alloc (.cells #[.int .i64 im'.w, .int .i64 im'.h, .slice A im'.pix.length c] 32)) := Below.alloc (Below.refl _ _) (Nat.le_refl _) _
  have h2a := H2.out.below hal2
  refine (take_at h2a (Nat.le_trans hB (Nat.le_trans HbW.out.size (Nat.le_trans hs2 hal2.size))) hlen i hi h2a.pNot).mono ?_
  rintro e w3 ⟨rfl, vk3, vi3, h3, hb3, hf3⟩
  have hnp3 : ∀ b, w.heap.size ≤ b → ¬ foot p [] b := by
    rintro b hb (h | h)
    · omega
    · simp at h
  have hs3 := hf3.size
  have hs2a := hal2.size
  simp only [World.size_alloc] at hs3
  have hW2 := (Array.getElem?_eq_some_iff.1 Hrb.out).1
  have hkb3 := (hf3.block _ (by simp; omega) (hnp3 _ (Nat.le_refl _))).trans (blk_in hal2 (blk_in hb2 Hkb.out))
  have hrb3 := (hf3.block _ (by simp; omega) (hnp3 _ (by omega))).trans (blk_in hal2 (blk_in hb2 Hrb.out))
  have hib3 := (hf3.block _ (by simp) (hnp3 _ (by omega))).trans (blk_new w2 (.cells #[.int .i64 im'.w, .int .i64 im'.h, .slice A im'.pix.length c] 32))
  have hvo3 : ImIs w3 B vs[i] im' := ImIs.frame ⟨_, Hvp.out, own_below Hvo.out hal2⟩ hf3 h2a.pNot
  have hbud := hok.b1
  have hle3 : (s.l.eraseIdx i).length ≤ 4096 := by rw [List.length_eraseIdx]; split <;> omega
  obtain ⟨p0, p1, p2, p3, p4, z0, z1, z2, z3, z4⟩ := blk5 h3.blk
  obtain ⟨k0, k1, k2, k3, k4, _⟩ := blk5 hkb3
  obtain ⟨i0, i1, i2, _⟩ := blk3 hib3
  have hok3 : ∀ b, vk3.ownBlock = some b → B ≤ b ∧ b < w3.heap.size := h3.ks.lt
  have hoi3 : ∀ b, vi3.ownBlock = some b → B ≤ b ∧ b < w3.heap.size := h3.is.lt
  have hkp : vk3.ownBlock ≠ some p := own_notblock h3.ks h3.blk (by decide)
  have hip : vi3.ownBlock ≠ some p := own_notblock h3.is h3.blk (by decide)
  have hk_ib : vk3.ownBlock ≠ some w2.heap.size := own_notblock h3.ks hib3 (by decide)
  have hi_ib : vi3.ownBlock ≠ some w2.heap.size := fun e => by have := hb3 _ (.inr e); simp at this; omega
  have hk_rb : vk3.ownBlock ≠ some (w.heap.size + 1) := own_notblock h3.ks hrb3 (by decide)
  have hi_rb : vi3.ownBlock ≠ some (w.heap.size + 1) := fun e => by have := hb3 _ (.inr e); simp at this; omega
  have hk_kb : vk3.ownBlock ≠ some w.heap.size := fun e => by have := hb3 _ (.inl e); simp at this; omega
  have hne : vi3.ownBlock = none ∨ vi3.ownBlock ≠ vk3.ownBlock := by
    cases h5 : vi3.ownBlock with
    | none => exact .inl rfl
    | some b =>
      right
      intro h4
      obtain ⟨cs, hc⟩ := own_typed h3.is b h5
      obtain ⟨cs', hc'⟩ := own_typed h3.ks b h4.symm
      rw [hc] at hc'; simp at hc'
  obtain ⟨ji0, hi0', hz0, hz1, hz2⟩ := info_parts info29
  obtain ⟨jj0, hj0, hy0, hy1, hy2⟩ := info_parts info32
  have hlp : p < w3.heap.size := (Array.getElem?_eq_some_iff.1 h3.blk).1
  have hlk : w.heap.size < w3.heap.size := (Array.getElem?_eq_some_iff.1 hkb3).1
  have hli : w2.heap.size < w3.heap.size := (Array.getElem?_eq_some_iff.1 hib3).1
  have hlp1 : p < w3.heap.size + 1 := by omega
  have hli1 : w2.heap.size < w3.heap.size + 1 := by omega
  have hlk1 : w.heap.size < w3.heap.size + 1 := by omega
  have hB3 : B ≤ w3.heap.size := Nat.le_trans h3.hp (by omega)
  have H3 := Lib.hid h3
  have Hks3 := Lib.hid h3.ks
  have His3 := Lib.hid h3.is
  have Hkb3 := Lib.hid hkb3
  have Hrb3 := Lib.hid hrb3
  have Hib3 := Lib.hid hib3
  have Hvo3 := Lib.hid hvo3
  have Hok3 := Lib.hid hok3
  have Hoi3 := Lib.hid hoi3
  have Hne := Lib.hid hne
  have Hb3 := Lib.hid hb3
  have Hf3 := Lib.hid hf3
  have Hhk := Lib.hid (⟨hkp, hk_ib, hk_rb, hk_kb⟩ : vk3.ownBlock ≠ some p ∧ vk3.ownBlock ≠ some w2.heap.size ∧ vk3.ownBlock ≠ some (w.heap.size + 1) ∧ vk3.ownBlock ≠ some w.heap.size)
  have Hhi := Lib.hid (⟨hip, hi_ib, hi_rb⟩ : vi3.ownBlock ≠ some p ∧ vi3.ownBlock ≠ some w2.heap.size ∧ vi3.ownBlock ≠ some (w.heap.size + 1))
  have hw2a : Below w.heap.size w (w2.alloc (.cells #[.int .i64 im'.w, .int .i64 im'.h, .slice A im'.pix.length c] 32)) := (HbW.out.trans (hb2.mono HbW.out.size)).trans (hal2.mono (Nat.le_trans HbW.out.size hb2.size))
  have Hst3 := Lib.hid (⟨((Fr.below hw2a _).trans hf3).mono foot_wide, by
    rintro b (h | h)
    · exact .inl (.inl h)
    · simp only [List.mem_cons, List.not_mem_nil, or_false] at h
      have hsz := hw2a.size
      rcases h with h | h
      · exact .inr (Nat.le_trans hsz (hb3 b (.inl h.symm)))
      · exact .inr (Nat.le_trans hsz (hb3 b (.inr h.symm)))⟩ : Stp w w3 (foot p [vk.ownBlock, (Value.slice (some ⟨gi, 0, none⟩) s.l.length ci).ownBlock]) (foot p [vk3.ownBlock, vi3.ownBlock]))
  clear hw2a
  clear h3 hkb3 hrb3 hib3 hvo3 hok3 hoi3 hne hb3 hf3 hkp hk_ib hk_rb hk_kb hip hi_ib hi_rb h2a hal2 hb2 hnp3 c3 q0 q1 q2 p0 p1 p4 z0 z1 z4
  go_wp2_with fail
  have hi_kb : vi3.ownBlock ≠ some w.heap.size := own_notblock His3.out Hkb3.out (by decide)
  have hSof : ∀ w' : World, (∀ b, b < w3.heap.size → vk3.ownBlock ≠ some b → vi3.ownBlock ≠ some b → w'.heap[b]? = w3.heap[b]?) → w'.cell? ⟨p, 2, none⟩ = some vk3 ∧ w'.cell? ⟨p, 3, none⟩ = some vi3 ∧ w'.cell? ⟨w.heap.size, 0, none⟩ = some (.int .i64 k.node) ∧ w'.cell? ⟨w.heap.size, 1, none⟩ = some (.int .i64 k.stamp) ∧ w'.cell? ⟨w.heap.size, 2, none⟩ = some (.int .i64 k.level) ∧ w'.cell? ⟨w.heap.size, 3, none⟩ = some (.int .i64 k.x) ∧ w'.cell? ⟨w.heap.size, 4, none⟩ = some (.int .i64 k.y) ∧ w'.cell? ⟨w2.heap.size, 0, none⟩ = some (.int .i64 im'.w) ∧ w'.cell? ⟨w2.heap.size, 1, none⟩ = some (.int .i64 im'.h) ∧ w'.cell? ⟨w2.heap.size, 2, none⟩ = some (.slice A im'.pix.length c) := by
    intro w' hh
    obtain ⟨_, _, b1, b2, _⟩ := blk5 ((hh p hlp Hhk.out.1 Hhi.out.1).trans H3.out.blk)
    obtain ⟨a0, a1, a2, a3, a4, _⟩ := blk5 ((hh w.heap.size hlk Hhk.out.2.2.2 hi_kb).trans Hkb3.out)
    obtain ⟨c0, c1, c2, _⟩ := blk3 ((hh w2.heap.size hli Hhk.out.2.1 Hhi.out.2.1).trans Hib3.out)
    exact ⟨b1, b2, a0, a1, a2, a3, a4, c0, c1, c2⟩
  refine wp_region_T (D := fun j => decide (j < 16) && !(j == 1)) (S := (fun w' => w'.cell? ⟨p, 2, none⟩ = some vk3 ∧ w'.cell? ⟨p, 3, none⟩ = some vi3 ∧ w'.cell? ⟨w.heap.size, 0, none⟩ = some (.int .i64 k.node) ∧ w'.cell? ⟨w.heap.size, 1, none⟩ = some (.int .i64 k.stamp) ∧ w'.cell? ⟨w.heap.size, 2, none⟩ = some (.int .i64 k.level) ∧ w'.cell? ⟨w.heap.size, 3, none⟩ = some (.int .i64 k.x) ∧ w'.cell? ⟨w.heap.size, 4, none⟩ = some (.int .i64 k.y) ∧ w'.cell? ⟨w2.heap.size, 0, none⟩ = some (.int .i64 im'.w) ∧ w'.cell? ⟨w2.heap.size, 1, none⟩ = some (.int .i64 im'.h) ∧ w'.cell? ⟨w2.heap.size, 2, none⟩ = some (.slice A im'.pix.length c))) (by kernel_rfl) ?_
  have hS0 : (fun w' => w'.cell? ⟨p, 2, none⟩ = some vk3 ∧ w'.cell? ⟨p, 3, none⟩ = some vi3 ∧ w'.cell? ⟨w.heap.size, 0, none⟩ = some (.int .i64 k.node) ∧ w'.cell? ⟨w.heap.size, 1, none⟩ = some (.int .i64 k.stamp) ∧ w'.cell? ⟨w.heap.size, 2, none⟩ = some (.int .i64 k.level) ∧ w'.cell? ⟨w.heap.size, 3, none⟩ = some (.int .i64 k.x) ∧ w'.cell? ⟨w.heap.size, 4, none⟩ = some (.int .i64 k.y) ∧ w'.cell? ⟨w2.heap.size, 0, none⟩ = some (.int .i64 im'.w) ∧ w'.cell? ⟨w2.heap.size, 1, none⟩ = some (.int .i64 im'.h) ∧ w'.cell? ⟨w2.heap.size, 2, none⟩ = some (.slice A im'.pix.length c)) { w3 with drawn := w3.drawn + 1 } := ⟨p2, p3, k0, k1, k2, k3, k4, i0, i1, i2⟩
  refine wpT_free_take (i := 1) (v := .pointer (some ⟨p, 0, none⟩)) rfl (by rfl) (by decide +kernel) (by decide +kernel) (by decide +kernel) (fun _ _ _ h => h) (Or.inl ⟨by rfl, by intro w hSw; go_simp⟩) ?_
  simp only [Act.put, List.setIfInBounds_toArray, List.set_cons_zero, List.set_cons_succ]
  refine wpT_take (i := 0) (v := .pointer (some ⟨p, 0, none⟩)) [] rfl (by decide +kernel) (by decide +kernel) (by decide +kernel) (by decide +kernel) (by decide +kernel) (fun _ _ _ h => h) (Or.inl ⟨by rfl, by intro w hSw; go_simp⟩) hS0 ?_
  simp only [Act.put, List.setIfInBounds_toArray, List.set_cons_zero, List.set_cons_succ]
  refine wpT_take (i := 2) (v := .pointer (some ⟨p, 0, none⟩)) [] rfl (by decide +kernel) (by decide +kernel) (by decide +kernel) (by decide +kernel) (by decide +kernel) (fun _ _ _ h => h) (Or.inl ⟨by rfl, by intro w hSw; go_simp⟩) hS0 ?_
  simp only [Act.put, List.setIfInBounds_toArray, List.set_cons_zero, List.set_cons_succ]
  refine wpT_take (i := 3) (v := .pointer (some ⟨p, 0, none⟩)) [] rfl (by decide +kernel) (by decide +kernel) (by decide +kernel) (by decide +kernel) (by decide +kernel) (fun _ _ _ h => h) (Or.inl ⟨by rfl, by intro w hSw; go_simp⟩) hS0 ?_
  simp only [Act.put, List.setIfInBounds_toArray, List.set_cons_zero, List.set_cons_succ]
  refine wpT_take (i := 4) (v := .pointer (some ⟨p, 2, none⟩)) [] rfl (by decide +kernel) (by decide +kernel) (by decide +kernel) (by decide +kernel) (by decide +kernel) (fun _ _ _ h => h) (Or.inl ⟨by rfl, by intro w hSw; go_simp⟩) hS0 ?_
  simp only [Act.put, List.setIfInBounds_toArray, List.set_cons_zero, List.set_cons_succ]
  refine wpT_take (i := 5) (v := vk3) [] rfl (by decide +kernel) (by decide +kernel) (by decide +kernel) (by decide +kernel) (by decide +kernel) (fun _ _ _ h => h) (Or.inl ⟨by rfl, by intro w hSw; obtain ⟨g1, g2, g3, g4, g5, g6, g7, g8, g9, g10⟩ := hSw; go_simp⟩) hS0 ?_
  simp only [Act.put, List.setIfInBounds_toArray, List.set_cons_zero, List.set_cons_succ]
  refine wpT_take (i := 6) (v := .agg #[.int .i64 k.node, .int .i64 k.stamp, .int .i64 k.level, .int .i64 k.x, .int .i64 k.y]) [] rfl (by decide +kernel) (by decide +kernel) (by decide +kernel) (by decide +kernel) (by decide +kernel) (fun _ _ _ h => h) (Or.inl ⟨by rfl, by intro w hSw; obtain ⟨g1, g2, g3, g4, g5, g6, g7, g8, g9, g10⟩ := hSw; go_simp⟩) hS0 ?_
  simp only [Act.put, List.setIfInBounds_toArray, List.set_cons_zero, List.set_cons_succ]
  refine wpT_take (i := 9) (v := .pointer (some ⟨p, 0, none⟩)) [10, 11, 12] rfl (by decide +kernel) (by decide +kernel) (by decide +kernel) (by decide +kernel) (by decide +kernel) (fun _ _ _ h => h) (Or.inl ⟨by rfl, by intro w hSw; go_simp⟩) hS0 ?_
  simp only [Act.put, List.setIfInBounds_toArray, List.set_cons_zero, List.set_cons_succ]
  refine wpT_take (i := 10) (v := .pointer (some ⟨p, 0, none⟩)) [11, 12] rfl (by decide +kernel) (by decide +kernel) (by decide +kernel) (by decide +kernel) (by decide +kernel) (fun _ _ _ h => h) (Or.inl ⟨by rfl, by intro w hSw; go_simp⟩) hS0 ?_
  simp only [Act.put, List.setIfInBounds_toArray, List.set_cons_zero, List.set_cons_succ]
  refine wpT_take (i := 11) (v := .pointer (some ⟨p, 3, none⟩)) [12] rfl (by decide +kernel) (by decide +kernel) (by decide +kernel) (by decide +kernel) (by decide +kernel) (fun _ _ _ h => h) (Or.inl ⟨by rfl, by intro w hSw; go_simp⟩) hS0 ?_
  simp only [Act.put, List.setIfInBounds_toArray, List.set_cons_zero, List.set_cons_succ]
  refine wpT_take (i := 12) (v := vi3) [] rfl (by decide +kernel) (by decide +kernel) (by decide +kernel) (by decide +kernel) (by decide +kernel) (fun _ _ _ h => h) (Or.inl ⟨by rfl, by intro w hSw; obtain ⟨g1, g2, g3, g4, g5, g6, g7, g8, g9, g10⟩ := hSw; go_simp⟩) hS0 ?_
  simp only [Act.put, List.setIfInBounds_toArray, List.set_cons_zero, List.set_cons_succ]
  refine wpT_take (i := 13) (v := .agg #[.int .i64 im'.w, .int .i64 im'.h, .slice A im'.pix.length c]) [14, 15] rfl (by decide +kernel) (by decide +kernel) (by decide +kernel) (by decide +kernel) (by decide +kernel) (fun _ _ _ h => h) (Or.inl ⟨by rfl, by intro w hSw; obtain ⟨g1, g2, g3, g4, g5, g6, g7, g8, g9, g10⟩ := hSw; go_simp⟩) hS0 ?_
  simp only [Act.put, List.setIfInBounds_toArray, List.set_cons_zero, List.set_cons_succ]
  refine wpT_ready (rs := [7, 14]) (by decide +kernel) (by simp) ?_
  refine AllT.cons rfl (fun K hK => ?_) (AllT.cons rfl (fun K hK => ?_) AllT.nil)
  · skip
    go_simp
    refine hK.out _ _ (fun _ => ?_) ?_
    · exact hSof _ (fun b hb hn hn2 => Below.block (w := w3) (B := w3.heap.size) (by repeat (first | exact Below.refl _ _ | refine Below.drew ?_ | refine Below.alloc ?_ (by first | (simp; done) | (simp; omega)) _)) b hb)
    try simp only [Act.put, List.setIfInBounds_toArray, List.set_cons_zero, List.set_cons_succ]
    refine wpT_ready (rs := [8, 14]) (by decide +kernel) (by simp) ?_
    refine AllT.cons rfl (fun K hK => ?_) (AllT.cons rfl (fun K hK => ?_) AllT.nil)
    · skip
      refine step_appK (by rfl) (.tmp 33) (.tmp 35) 36 (by rfl) 29 5 40 ji0 _ Try.underlying36 hi0' hz0 hz1 hz2 rfl (by omega) (by omega) B vk3 (s.l.eraseIdx i).length (flatK ((s.l.eraseIdx i).map (·.1))) (by rfl) _ (kcells k) (by rfl) (own_below Hks3.out (by repeat (first | exact Below.refl _ _ | refine Below.drew ?_ | refine Below.alloc ?_ (by first | (simp; done) | (simp; omega)) _))) (by rfl) (by first | exact World.news_of_block (cs := (kcells k).toArray) (blk_at _ _ _ (by simp)) | exact World.news_of_block (cs := (kcells k).toArray) (blk_alloc _ (blk_at _ _ _ (by simp)))) (by simp [Value.oneCell', kcells]) (by omega) (by first | omega | (simp; done) | (simp; omega)) ?_
      intro gk1 cap1 w4 hown1 hgrow1 hat1
      have hsz1 := hgrow1.size
      (try simp only [World.size_alloc, World.size_drew] at hsz1)
      have hlp4 : p < w4.heap.size := by omega
      have hli4 : w2.heap.size < w4.heap.size := by omega
      have hp4 := (hgrow1.block p (by first | omega | (simp; done) | (simp; omega)) (Ne.symm Hhk.out.1)).trans (blk_in (w := w3) (by repeat (first | exact Below.refl _ _ | refine Below.drew ?_ | refine Below.alloc ?_ (by first | (simp; done) | (simp; omega)) _)) H3.out.blk)
      have hi4 := (hgrow1.block w2.heap.size (by first | omega | (simp; done) | (simp; omega)) (Ne.symm Hhk.out.2.1)).trans (blk_in (w := w3) (by repeat (first | exact Below.refl _ _ | refine Below.drew ?_ | refine Below.alloc ?_ (by first | (simp; done) | (simp; omega)) _)) Hib3.out)
      obtain ⟨_, _, pp2, pp3, _, _, _, zz2, zz3, _⟩ := blk5 hp4
      obtain ⟨ii0, ii1, ii2, _⟩ := blk3 hi4
      have Hio1 := Lib.hid ((own_below His3.out (by repeat (first | exact Below.refl _ _ | refine Below.drew ?_ | refine Below.alloc ?_ (by first | (simp; done) | (simp; omega)) _))).kept hgrow1 Hne.out)
      have Hg1 := Lib.hid hgrow1
      have Hown1 := Lib.hid hown1
      have Hp4 := Lib.hid hp4
      have Hf4 := Lib.hid (Fr.grown (F := foot p [vk3.ownBlock, vi3.ownBlock]) (Fr.below (w := w3) (by repeat (first | exact Below.refl _ _ | refine Below.drew ?_ | refine Below.alloc ?_ (by first | (simp; done) | (simp; omega)) _)) _) hgrow1 (fun b hb => .inl (.inr (by simp [hb]))))
      have He4 := Lib.hid (fun (b : Nat) (hb : b < w3.heap.size) (hn : vk3.ownBlock ≠ some b) => (hgrow1.block b (by first | omega | (simp; done) | (simp; omega)) (Ne.symm hn)).trans ((Below.block (w := w3) (B := w3.heap.size) (by repeat (first | exact Below.refl _ _ | refine Below.drew ?_ | refine Below.alloc ?_ (by first | (simp; done) | (simp; omega)) _)) b hb)))
      clear hgrow1 hown1 hp4 hi4
      refine hK.out _ _ (fun _ => ?_) ?_
      · exact hSof _ (fun b hb hn hn2 => He4.out b hb hn)
      try simp only [Act.put, List.setIfInBounds_toArray, List.set_cons_zero, List.set_cons_succ]
      refine wpT_ready (rs := [14]) (by decide +kernel) (by simp) ?_
      refine AllT.cons rfl (fun K hK => ?_) AllT.nil
      · skip
        go_simp
        refine hK.out _ _ (fun _ => ?_) ?_
        · exact hSof _ (fun b hb hn hn2 => (Below.block (w := w4) (B := w4.heap.size) (by repeat (first | exact Below.refl _ _ | refine Below.drew ?_ | refine Below.alloc ?_ (by first | (simp; done) | (simp; omega)) _)) b (by omega)).trans (He4.out b hb hn))
        try simp only [Act.put, List.setIfInBounds_toArray, List.set_cons_zero, List.set_cons_succ]
        refine wpT_ready (rs := [15]) (by decide +kernel) (by simp) ?_
        refine AllT.cons rfl (fun K hK => ?_) AllT.nil
        · skip
          refine step_appK (by rfl) (.tmp 40) (.tmp 42) 48 (by rfl) 32 3 40 jj0 _ Try.underlying48 hj0 hy0 hy1 hy2 rfl (by omega) (by omega) B vi3 (s.l.eraseIdx i).length (flatI (vs.eraseIdx i)) (by rfl) _ [.int .i64 im'.w, .int .i64 im'.h, .slice A im'.pix.length c] (by rfl) (own_below Hio1.out (by repeat (first | exact Below.refl _ _ | refine Below.drew ?_ | refine Below.alloc ?_ (by first | (simp; done) | (simp; omega)) _))) (by rfl) (by first | exact World.news_of_block (cs := #[.int .i64 im'.w, .int .i64 im'.h, .slice A im'.pix.length c]) (blk_at _ _ _ (by simp)) | exact World.news_of_block (cs := #[.int .i64 im'.w, .int .i64 im'.h, .slice A im'.pix.length c]) ((Hg1.out.block _ (by first | omega | (simp; done) | (simp; omega)) (fun e => by have := (Hok3.out _ e.symm).2; omega)).trans (blk_at _ _ _ (by simp))) | exact World.news_of_block (cs := #[.int .i64 im'.w, .int .i64 im'.h, .slice A im'.pix.length c]) ((Hg1.out.block _ (by first | omega | (simp; done) | (simp; omega)) (fun e => by have := (Hok3.out _ e.symm).2; omega)).trans (blk_alloc _ (blk_at _ _ _ (by simp))))) (by simp [Value.oneCell']) (by omega) (by first | omega | (simp; done) | (simp; omega)) ?_
          intro gi2 cap2 w5 hown2 hgrow2 hat2
          have hsz2 := hgrow2.size
          (try simp only [World.size_alloc] at hsz2)
          have hp5 := (hgrow2.block p (by first | omega | (simp; done) | (simp; omega)) (Ne.symm Hhi.out.1)).trans (blk_in (w := w4) (by repeat (first | exact Below.refl _ _ | refine Below.drew ?_ | refine Below.alloc ?_ (by first | (simp; done) | (simp; omega)) _)) Hp4.out)
          obtain ⟨_, _, xx2, xx3, _, _, _, yy2, yy3, _⟩ := blk5 hp5
          have hne2 : (Value.slice (some ⟨gk1, 0, none⟩) ((s.l.eraseIdx i).length + 1) cap1).ownBlock ≠ vi3.ownBlock := by
            intro h
            obtain ⟨cs, hc⟩ := own_typed Hown1.out gk1 rfl
            obtain ⟨cs', hc'⟩ := own_typed Hio1.out gk1 h.symm
            rw [hc] at hc'; simp at hc'
          have Hk2 := Lib.hid ((own_below Hown1.out (by repeat (first | exact Below.refl _ _ | refine Below.drew ?_ | refine Below.alloc ?_ (by first | (simp; done) | (simp; omega)) _))).kept hgrow2 (.inr hne2))
          have Hown2 := Lib.hid hown2
          have Hp5 := Lib.hid hp5
          have Hf5 := Lib.hid (Hf4.out.trans (Fr.grown (F := foot p [vk3.ownBlock, vi3.ownBlock]) (Fr.below (w := w4) (by repeat (first | exact Below.refl _ _ | refine Below.drew ?_ | refine Below.alloc ?_ (by first | (simp; done) | (simp; omega)) _)) _) hgrow2 (fun b hb => .inl (.inr (by simp [hb])))))
          have He5 := Lib.hid (fun (b : Nat) (hb : b < w3.heap.size) (hn : vk3.ownBlock ≠ some b) (hn2 : vi3.ownBlock ≠ some b) => ((hgrow2.block b (by first | omega | (simp; done) | (simp; omega)) (Ne.symm hn2)).trans ((Below.block (w := w4) (B := w4.heap.size) (by repeat (first | exact Below.refl _ _ | refine Below.drew ?_ | refine Below.alloc ?_ (by first | (simp; done) | (simp; omega)) _)) b (by omega)))).trans (He4.out b hb hn))
          clear hgrow2 hown2 hp5 hne2
          refine hK.out _ _ (fun _ => ?_) ?_
          · exact hSof _ (fun b hb hn hn2 => He5.out b hb hn hn2)
          try simp only [Act.put, List.setIfInBounds_toArray, List.set_cons_zero, List.set_cons_succ]
          refine wpT_free_take (i := 16) (v := .pointer (some ⟨p, 0, none⟩)) rfl (by rfl) (by decide +kernel) (by decide +kernel) (by decide +kernel) (fun _ _ _ h => h) (Or.inl ⟨by rfl, by intro w hSw; go_simp⟩) ?_
          simp only [Act.put, List.setIfInBounds_toArray, List.set_cons_zero, List.set_cons_succ]
          refine wpT_free_take (i := 17) (v := .pointer (some ⟨p, 2, none⟩)) rfl (by rfl) (by decide +kernel) (by decide +kernel) (by decide +kernel) (fun _ _ _ h => h) (Or.inl ⟨by rfl, by intro w hSw; go_simp⟩) ?_
          simp only [Act.put, List.setIfInBounds_toArray, List.set_cons_zero, List.set_cons_succ]
          refine wpT_ready (rs := [18]) (by decide +kernel) (by simp) ?_
          refine AllT.cons rfl (fun K hK => ?_) AllT.nil
          go_simp
          refine hK.out _ _ (fun h => absurd h (by decide)) ?_
          try simp only [Act.put, List.setIfInBounds_toArray, List.set_cons_zero, List.set_cons_succ]
          refine wpT_free_take (i := 19) (v := .pointer (some ⟨p, 0, none⟩)) rfl (by rfl) (by decide +kernel) (by decide +kernel) (by decide +kernel) (fun _ _ _ h => h) (Or.inl ⟨by rfl, by intro w hSw; go_simp⟩) ?_
          simp only [Act.put, List.setIfInBounds_toArray, List.set_cons_zero, List.set_cons_succ]
          refine wpT_free_take (i := 20) (v := .pointer (some ⟨p, 3, none⟩)) rfl (by rfl) (by decide +kernel) (by decide +kernel) (by decide +kernel) (fun _ _ _ h => h) (Or.inl ⟨by rfl, by intro w hSw; go_simp⟩) ?_
          simp only [Act.put, List.setIfInBounds_toArray, List.set_cons_zero, List.set_cons_succ]
          refine wpT_ready (rs := [21]) (by decide +kernel) (by simp) ?_
          refine AllT.cons rfl (fun K hK => ?_) AllT.nil
          go_simp
          refine hK.out _ _ (fun h => absurd h (by decide)) ?_
          try simp only [Act.put, List.setIfInBounds_toArray, List.set_cons_zero, List.set_cons_succ]
          refine wpT_done (by decide +kernel) ?_ _
          obtain ⟨W5, hW5⟩ : ∃ W5, W5 = (w5.setCell ⟨p, 2, none⟩ (.slice (some ⟨gk1, 0, none⟩) ((s.l.eraseIdx i).length + 1) cap1)).setCell ⟨p, 3, none⟩ (.slice (some ⟨gi2, 0, none⟩) ((s.l.eraseIdx i).length + 1) cap2) := ⟨_, rfl⟩
          rw [← hW5]
          have hv5 := Hvo3.out
          rw [Hvp.out] at hv5
          obtain ⟨hrr, hfr5, himg5, hheap5, hsz5⟩ := appended H3.out k im' im'.w im'.h A im'.pix.length c (hv5.frame Hf5.out H3.out.notPix) Hp5.out Hk2.out Hown2.out Hf5.out hW5
          have hrl : w.heap.size + 1 < w3.heap.size := (Array.getElem?_eq_some_iff.1 Hrb3.out).1
          have hib5 : W5.heap[w2.heap.size]? = some (.cells #[.int .i64 im'.w, .int .i64 im'.h, .slice A im'.pix.length c] 32 (0, 0)) := (hheap5 _ (by omega)).trans ((He5.out _ hli Hhk.out.2.1 Hhi.out.2.1).trans Hib3.out)
          have hrb5 : W5.heap[w.heap.size + 1]? = some (.cells #[.int .i64 0, .int .i64 0, .slice none 0 0] 32 (0, 0)) := (hheap5 _ (by omega)).trans ((He5.out _ hrl Hhk.out.2.2.1 Hhi.out.2.2).trans Hrb3.out)
          have hpi : PixIn W5 A im'.pix.length im'.pix := by
            obtain ⟨A', n', c', he, hp⟩ := (himg5 _ _ hv5).read hpx
            simp only [Value.agg.injEq, Array.mk.injEq, List.cons.injEq, Value.slice.injEq, true_and, and_true] at he
            obtain ⟨rfl, rfl, rfl⟩ := he
            exact hp
          have hgk : w.heap.size ≤ gk1 := by
            rcases hat1 with h | h
            · have := Hb3.out gk1 (.inl h); simp at this; omega
            · (try simp at h); omega
          have hgi : w.heap.size ≤ gi2 ∧ vi3.ownBlock = some gi2 ∨ w3.heap.size ≤ gi2 := by
            rcases hat2 with h | h
            · left; refine ⟨?_, h⟩; have := Hb3.out gi2 (.inr h); simp at this; omega
            · right; (try simp at h); omega
          have hrbi : (Value.slice (some ⟨gi2, 0, none⟩) ((s.l.eraseIdx i).length + 1) cap2).ownBlock ≠ some (w.heap.size + 1) := by
            intro h
            simp only [Value.ownBlock, Option.some.injEq] at h
            rcases hgi with ⟨_, h1⟩ | h1
            · exact Hhi.out.2.2 (by rw [h1, h])
            · omega
          have hgi' : w.heap.size ≤ gi2 := by
            rcases hgi with h | h
            · exact h.1
            · omega
          have Hrr := Lib.hid hrr
          have Hfr5 := Lib.hid hfr5
          have Hrb5 := Lib.hid hrb5
          have Hpi := Lib.hid hpi
          have Hgk := Lib.hid hgk
          have Hgi := Lib.hid hgi'
          have Hrbi := Lib.hid hrbi
          obtain ⟨j0, j1, j2, _⟩ := blk3 hib5
          clear hW5 hv5 hrr hfr5 himg5 hheap5 hsz5 hib5 hrb5 hpi hgk hgi hgi' hrbi hK Hp5 Hk2 Hown2 Hf5 He5 hat1 hat2 k0 k1 k2 k3 k4 i0 i1 i2 p2 p3 z2 z3 pp2 pp3 zz2 zz3 ii0 ii1 ii2 xx2 xx3 yy2 yy3 hSof hS0 hsz1 hsz2
          go_wp2_with fail
          have K := rcopied_in A im'.pix.length c im' W5 Hpi.out
          with_reducible refine K.mono ?_
          clear K
          rintro e w6 ⟨v', rfl, him6, hb6⟩
          obtain ⟨vp', rfl, hvo6⟩ := him6
          obtain ⟨A6, c6, rfl⟩ := own_slice hvo6
          obtain ⟨r0, r1, r2, y0, y1, y2⟩ := blk3 (blk_in hb6 Hrb5.out)
          have Hvo6 := Lib.hid hvo6
          have Hb6 := Lib.hid hb6
          clear hvo6 hb6 j0 j1 j2
          go_wp2
          refine bodyPost_ret (v := .tuple #[.agg #[.int .i64 im'.w, .int .i64 im'.h, .slice A6 im'.pix.length c6], .bool true]) (by simp [results, Try.results25, go_sem, *]) rfl ⟨_, rfl, ?_⟩
          have huse : Mo.use k im' s = { s with l := s.l.eraseIdx i ++ [(k, im')] } := by simp only [Mo.use, Hrm.out]
          rw [huse]
          exact rget_end (s' := { s with l := s.l.eraseIdx i ++ [(k, im')] }) hB (huse ▸ ok_use hok Hlk.out) Hst3.out Hrr.out Hfr5.out (fun b hb => by simp only [Value.ownBlock, Option.some.injEq] at hb; exact hb ▸ Hgk.out) (fun b hb => by simp only [Value.ownBlock, Option.some.injEq] at hb; exact hb ▸ Hgi.out) Hb6.out ⟨_, rfl, Hvo6.out⟩ Hrb5.out (by omega) Hrbi.out (by omega) (Fr.setCell (F := fun b => b = w.heap.size + 1) (Fr.setCell (F := fun b => b = w.heap.size + 1) (Fr.setCell (F := fun b => b = w.heap.size + 1) (Fr.refl _ _) (.inl rfl) _) (.inl rfl) _) (.inl rfl) _)
    · skip
      go_simp
      refine hK.out _ _ (fun _ => ?_) ?_
      · exact hSof _ (fun b hb hn hn2 => Below.block (w := w3) (B := w3.heap.size) (by repeat (first | exact Below.refl _ _ | refine Below.drew ?_ | refine Below.alloc ?_ (by first | (simp; done) | (simp; omega)) _)) b hb)
      try simp only [Act.put, List.setIfInBounds_toArray, List.set_cons_zero, List.set_cons_succ]
      refine wpT_ready (rs := [8]) (by decide +kernel) (by simp) ?_
      refine AllT.cons rfl (fun K hK => ?_) AllT.nil
      · skip
        refine step_appK (by rfl) (.tmp 33) (.tmp 35) 36 (by rfl) 29 5 40 ji0 _ Try.underlying36 hi0' hz0 hz1 hz2 rfl (by omega) (by omega) B vk3 (s.l.eraseIdx i).length (flatK ((s.l.eraseIdx i).map (·.1))) (by rfl) _ (kcells k) (by rfl) (own_below Hks3.out (by repeat (first | exact Below.refl _ _ | refine Below.drew ?_ | refine Below.alloc ?_ (by first | (simp; done) | (simp; omega)) _))) (by rfl) (by first | exact World.news_of_block (cs := (kcells k).toArray) (blk_at _ _ _ (by simp)) | exact World.news_of_block (cs := (kcells k).toArray) (blk_alloc _ (blk_at _ _ _ (by simp)))) (by simp [Value.oneCell', kcells]) (by omega) (by first | omega | (simp; done) | (simp; omega)) ?_
        intro gk1 cap1 w4 hown1 hgrow1 hat1
        have hsz1 := hgrow1.size
        (try simp only [World.size_alloc, World.size_drew] at hsz1)
        have hlp4 : p < w4.heap.size := by omega
        have hli4 : w2.heap.size < w4.heap.size := by omega
        have hp4 := (hgrow1.block p (by first | omega | (simp; done) | (simp; omega)) (Ne.symm Hhk.out.1)).trans (blk_in (w := w3) (by repeat (first | exact Below.refl _ _ | refine Below.drew ?_ | refine Below.alloc ?_ (by first | (simp; done) | (simp; omega)) _)) H3.out.blk)
        have hi4 := (hgrow1.block w2.heap.size (by first | omega | (simp; done) | (simp; omega)) (Ne.symm Hhk.out.2.1)).trans (blk_in (w := w3) (by repeat (first | exact Below.refl _ _ | refine Below.drew ?_ | refine Below.alloc ?_ (by first | (simp; done) | (simp; omega)) _)) Hib3.out)
        obtain ⟨_, _, pp2, pp3, _, _, _, zz2, zz3, _⟩ := blk5 hp4
        obtain ⟨ii0, ii1, ii2, _⟩ := blk3 hi4
        have Hio1 := Lib.hid ((own_below His3.out (by repeat (first | exact Below.refl _ _ | refine Below.drew ?_ | refine Below.alloc ?_ (by first | (simp; done) | (simp; omega)) _))).kept hgrow1 Hne.out)
        have Hg1 := Lib.hid hgrow1
        have Hown1 := Lib.hid hown1
        have Hp4 := Lib.hid hp4
        have Hf4 := Lib.hid (Fr.grown (F := foot p [vk3.ownBlock, vi3.ownBlock]) (Fr.below (w := w3) (by repeat (first | exact Below.refl _ _ | refine Below.drew ?_ | refine Below.alloc ?_ (by first | (simp; done) | (simp; omega)) _)) _) hgrow1 (fun b hb => .inl (.inr (by simp [hb]))))
        have He4 := Lib.hid (fun (b : Nat) (hb : b < w3.heap.size) (hn : vk3.ownBlock ≠ some b) => (hgrow1.block b (by first | omega | (simp; done) | (simp; omega)) (Ne.symm hn)).trans ((Below.block (w := w3) (B := w3.heap.size) (by repeat (first | exact Below.refl _ _ | refine Below.drew ?_ | refine Below.alloc ?_ (by first | (simp; done) | (simp; omega)) _)) b hb)))
        clear hgrow1 hown1 hp4 hi4
        refine hK.out _ _ (fun _ => ?_) ?_
        · exact hSof _ (fun b hb hn hn2 => He4.out b hb hn)
        try simp only [Act.put, List.setIfInBounds_toArray, List.set_cons_zero, List.set_cons_succ]
        refine wpT_ready (rs := [15]) (by decide +kernel) (by simp) ?_
        refine AllT.cons rfl (fun K hK => ?_) AllT.nil
        · skip
          refine step_appK (by rfl) (.tmp 40) (.tmp 42) 48 (by rfl) 32 3 40 jj0 _ Try.underlying48 hj0 hy0 hy1 hy2 rfl (by omega) (by omega) B vi3 (s.l.eraseIdx i).length (flatI (vs.eraseIdx i)) (by rfl) _ [.int .i64 im'.w, .int .i64 im'.h, .slice A im'.pix.length c] (by rfl) (own_below Hio1.out (by repeat (first | exact Below.refl _ _ | refine Below.drew ?_ | refine Below.alloc ?_ (by first | (simp; done) | (simp; omega)) _))) (by rfl) (by first | exact World.news_of_block (cs := #[.int .i64 im'.w, .int .i64 im'.h, .slice A im'.pix.length c]) (blk_at _ _ _ (by simp)) | exact World.news_of_block (cs := #[.int .i64 im'.w, .int .i64 im'.h, .slice A im'.pix.length c]) ((Hg1.out.block _ (by first | omega | (simp; done) | (simp; omega)) (fun e => by have := (Hok3.out _ e.symm).2; omega)).trans (blk_at _ _ _ (by simp))) | exact World.news_of_block (cs := #[.int .i64 im'.w, .int .i64 im'.h, .slice A im'.pix.length c]) ((Hg1.out.block _ (by first | omega | (simp; done) | (simp; omega)) (fun e => by have := (Hok3.out _ e.symm).2; omega)).trans (blk_alloc _ (blk_at _ _ _ (by simp))))) (by simp [Value.oneCell']) (by omega) (by first | omega | (simp; done) | (simp; omega)) ?_
          intro gi2 cap2 w5 hown2 hgrow2 hat2
          have hsz2 := hgrow2.size
          (try simp only [World.size_alloc] at hsz2)
          have hp5 := (hgrow2.block p (by first | omega | (simp; done) | (simp; omega)) (Ne.symm Hhi.out.1)).trans (blk_in (w := w4) (by repeat (first | exact Below.refl _ _ | refine Below.drew ?_ | refine Below.alloc ?_ (by first | (simp; done) | (simp; omega)) _)) Hp4.out)
          obtain ⟨_, _, xx2, xx3, _, _, _, yy2, yy3, _⟩ := blk5 hp5
          have hne2 : (Value.slice (some ⟨gk1, 0, none⟩) ((s.l.eraseIdx i).length + 1) cap1).ownBlock ≠ vi3.ownBlock := by
            intro h
            obtain ⟨cs, hc⟩ := own_typed Hown1.out gk1 rfl
            obtain ⟨cs', hc'⟩ := own_typed Hio1.out gk1 h.symm
            rw [hc] at hc'; simp at hc'
          have Hk2 := Lib.hid ((own_below Hown1.out (by repeat (first | exact Below.refl _ _ | refine Below.drew ?_ | refine Below.alloc ?_ (by first | (simp; done) | (simp; omega)) _))).kept hgrow2 (.inr hne2))
          have Hown2 := Lib.hid hown2
          have Hp5 := Lib.hid hp5
          have Hf5 := Lib.hid (Hf4.out.trans (Fr.grown (F := foot p [vk3.ownBlock, vi3.ownBlock]) (Fr.below (w := w4) (by repeat (first | exact Below.refl _ _ | refine Below.drew ?_ | refine Below.alloc ?_ (by first | (simp; done) | (simp; omega)) _)) _) hgrow2 (fun b hb => .inl (.inr (by simp [hb])))))
          have He5 := Lib.hid (fun (b : Nat) (hb : b < w3.heap.size) (hn : vk3.ownBlock ≠ some b) (hn2 : vi3.ownBlock ≠ some b) => ((hgrow2.block b (by first | omega | (simp; done) | (simp; omega)) (Ne.symm hn2)).trans ((Below.block (w := w4) (B := w4.heap.size) (by repeat (first | exact Below.refl _ _ | refine Below.drew ?_ | refine Below.alloc ?_ (by first | (simp; done) | (simp; omega)) _)) b (by omega)))).trans (He4.out b hb hn))
          clear hgrow2 hown2 hp5 hne2
          refine hK.out _ _ (fun _ => ?_) ?_
          · exact hSof _ (fun b hb hn hn2 => He5.out b hb hn hn2)
          try simp only [Act.put, List.setIfInBounds_toArray, List.set_cons_zero, List.set_cons_succ]
          refine wpT_free_take (i := 16) (v := .pointer (some ⟨p, 0, none⟩)) rfl (by rfl) (by decide +kernel) (by decide +kernel) (by decide +kernel) (fun _ _ _ h => h) (Or.inl ⟨by rfl, by intro w hSw; go_simp⟩) ?_
          simp only [Act.put, List.setIfInBounds_toArray, List.set_cons_zero, List.set_cons_succ]
          refine wpT_free_take (i := 17) (v := .pointer (some ⟨p, 2, none⟩)) rfl (by rfl) (by decide +kernel) (by decide +kernel) (by decide +kernel) (fun _ _ _ h => h) (Or.inl ⟨by rfl, by intro w hSw; go_simp⟩) ?_
          simp only [Act.put, List.setIfInBounds_toArray, List.set_cons_zero, List.set_cons_succ]
          refine wpT_ready (rs := [18]) (by decide +kernel) (by simp) ?_
          refine AllT.cons rfl (fun K hK => ?_) AllT.nil
          go_simp
          refine hK.out _ _ (fun h => absurd h (by decide)) ?_
          try simp only [Act.put, List.setIfInBounds_toArray, List.set_cons_zero, List.set_cons_succ]
          refine wpT_free_take (i := 19) (v := .pointer (some ⟨p, 0, none⟩)) rfl (by rfl) (by decide +kernel) (by decide +kernel) (by decide +kernel) (fun _ _ _ h => h) (Or.inl ⟨by rfl, by intro w hSw; go_simp⟩) ?_
          simp only [Act.put, List.setIfInBounds_toArray, List.set_cons_zero, List.set_cons_succ]
          refine wpT_free_take (i := 20) (v := .pointer (some ⟨p, 3, none⟩)) rfl (by rfl) (by decide +kernel) (by decide +kernel) (by decide +kernel) (fun _ _ _ h => h) (Or.inl ⟨by rfl, by intro w hSw; go_simp⟩) ?_
          simp only [Act.put, List.setIfInBounds_toArray, List.set_cons_zero, List.set_cons_succ]
          refine wpT_ready (rs := [21]) (by decide +kernel) (by simp) ?_
          refine AllT.cons rfl (fun K hK => ?_) AllT.nil
          go_simp
          refine hK.out _ _ (fun h => absurd h (by decide)) ?_
          try simp only [Act.put, List.setIfInBounds_toArray, List.set_cons_zero, List.set_cons_succ]
          refine wpT_done (by decide +kernel) ?_ _
          obtain ⟨W5, hW5⟩ : ∃ W5, W5 = (w5.setCell ⟨p, 2, none⟩ (.slice (some ⟨gk1, 0, none⟩) ((s.l.eraseIdx i).length + 1) cap1)).setCell ⟨p, 3, none⟩ (.slice (some ⟨gi2, 0, none⟩) ((s.l.eraseIdx i).length + 1) cap2) := ⟨_, rfl⟩
          rw [← hW5]
          have hv5 := Hvo3.out
          rw [Hvp.out] at hv5
          obtain ⟨hrr, hfr5, himg5, hheap5, hsz5⟩ := appended H3.out k im' im'.w im'.h A im'.pix.length c (hv5.frame Hf5.out H3.out.notPix) Hp5.out Hk2.out Hown2.out Hf5.out hW5
          have hrl : w.heap.size + 1 < w3.heap.size := (Array.getElem?_eq_some_iff.1 Hrb3.out).1
          have hib5 : W5.heap[w2.heap.size]? = some (.cells #[.int .i64 im'.w, .int .i64 im'.h, .slice A im'.pix.length c] 32 (0, 0)) := (hheap5 _ (by omega)).trans ((He5.out _ hli Hhk.out.2.1 Hhi.out.2.1).trans Hib3.out)
          have hrb5 : W5.heap[w.heap.size + 1]? = some (.cells #[.int .i64 0, .int .i64 0, .slice none 0 0] 32 (0, 0)) := (hheap5 _ (by omega)).trans ((He5.out _ hrl Hhk.out.2.2.1 Hhi.out.2.2).trans Hrb3.out)
          have hpi : PixIn W5 A im'.pix.length im'.pix := by
            obtain ⟨A', n', c', he, hp⟩ := (himg5 _ _ hv5).read hpx
            simp only [Value.agg.injEq, Array.mk.injEq, List.cons.injEq, Value.slice.injEq, true_and, and_true] at he
            obtain ⟨rfl, rfl, rfl⟩ := he
            exact hp
          have hgk : w.heap.size ≤ gk1 := by
            rcases hat1 with h | h
            · have := Hb3.out gk1 (.inl h); simp at this; omega
            · (try simp at h); omega
          have hgi : w.heap.size ≤ gi2 ∧ vi3.ownBlock = some gi2 ∨ w3.heap.size ≤ gi2 := by
            rcases hat2 with h | h
            · left; refine ⟨?_, h⟩; have := Hb3.out gi2 (.inr h); simp at this; omega
            · right; (try simp at h); omega
          have hrbi : (Value.slice (some ⟨gi2, 0, none⟩) ((s.l.eraseIdx i).length + 1) cap2).ownBlock ≠ some (w.heap.size + 1) := by
            intro h
            simp only [Value.ownBlock, Option.some.injEq] at h
            rcases hgi with ⟨_, h1⟩ | h1
            · exact Hhi.out.2.2 (by rw [h1, h])
            · omega
          have hgi' : w.heap.size ≤ gi2 := by
            rcases hgi with h | h
            · exact h.1
            · omega
          have Hrr := Lib.hid hrr
          have Hfr5 := Lib.hid hfr5
          have Hrb5 := Lib.hid hrb5
          have Hpi := Lib.hid hpi
          have Hgk := Lib.hid hgk
          have Hgi := Lib.hid hgi'
          have Hrbi := Lib.hid hrbi
          obtain ⟨j0, j1, j2, _⟩ := blk3 hib5
          clear hW5 hv5 hrr hfr5 himg5 hheap5 hsz5 hib5 hrb5 hpi hgk hgi hgi' hrbi hK Hp5 Hk2 Hown2 Hf5 He5 hat1 hat2 k0 k1 k2 k3 k4 i0 i1 i2 p2 p3 z2 z3 pp2 pp3 zz2 zz3 ii0 ii1 ii2 xx2 xx3 yy2 yy3 hSof hS0 hsz1 hsz2
          go_wp2_with fail
          have K := rcopied_in A im'.pix.length c im' W5 Hpi.out
          with_reducible refine K.mono ?_
          clear K
          rintro e w6 ⟨v', rfl, him6, hb6⟩
          obtain ⟨vp', rfl, hvo6⟩ := him6
          obtain ⟨A6, c6, rfl⟩ := own_slice hvo6
          obtain ⟨r0, r1, r2, y0, y1, y2⟩ := blk3 (blk_in hb6 Hrb5.out)
          have Hvo6 := Lib.hid hvo6
          have Hb6 := Lib.hid hb6
          clear hvo6 hb6 j0 j1 j2
          go_wp2
          refine bodyPost_ret (v := .tuple #[.agg #[.int .i64 im'.w, .int .i64 im'.h, .slice A6 im'.pix.length c6], .bool true]) (by simp [results, Try.results25, go_sem, *]) rfl ⟨_, rfl, ?_⟩
          have huse : Mo.use k im' s = { s with l := s.l.eraseIdx i ++ [(k, im')] } := by simp only [Mo.use, Hrm.out]
          rw [huse]
          exact rget_end (s' := { s with l := s.l.eraseIdx i ++ [(k, im')] }) hB (huse ▸ ok_use hok Hlk.out) Hst3.out Hrr.out Hfr5.out (fun b hb => by simp only [Value.ownBlock, Option.some.injEq] at hb; exact hb ▸ Hgk.out) (fun b hb => by simp only [Value.ownBlock, Option.some.injEq] at hb; exact hb ▸ Hgi.out) Hb6.out ⟨_, rfl, Hvo6.out⟩ Hrb5.out (by omega) Hrbi.out (by omega) (Fr.setCell (F := fun b => b = w.heap.size + 1) (Fr.setCell (F := fun b => b = w.heap.size + 1) (Fr.setCell (F := fun b => b = w.heap.size + 1) (Fr.refl _ _) (.inl rfl) _) (.inl rfl) _) (.inl rfl) _)
  · skip
    go_simp
    refine hK.out _ _ (fun _ => ?_) ?_
    · exact hSof _ (fun b hb hn hn2 => Below.block (w := w3) (B := w3.heap.size) (by repeat (first | exact Below.refl _ _ | refine Below.drew ?_ | refine Below.alloc ?_ (by first | (simp; done) | (simp; omega)) _)) b hb)
    try simp only [Act.put, List.setIfInBounds_toArray, List.set_cons_zero, List.set_cons_succ]
    refine wpT_ready (rs := [7]) (by decide +kernel) (by simp) ?_
    refine AllT.cons rfl (fun K hK => ?_) AllT.nil
    · skip
      go_simp
      refine hK.out _ _ (fun _ => ?_) ?_
      · exact hSof _ (fun b hb hn hn2 => Below.block (w := w3) (B := w3.heap.size) (by repeat (first | exact Below.refl _ _ | refine Below.drew ?_ | refine Below.alloc ?_ (by first | (simp; done) | (simp; omega)) _)) b hb)
      try simp only [Act.put, List.setIfInBounds_toArray, List.set_cons_zero, List.set_cons_succ]
      refine wpT_ready (rs := [8]) (by decide +kernel) (by simp) ?_
      refine AllT.cons rfl (fun K hK => ?_) AllT.nil
      · skip
        refine step_appK (by rfl) (.tmp 33) (.tmp 35) 36 (by rfl) 29 5 40 ji0 _ Try.underlying36 hi0' hz0 hz1 hz2 rfl (by omega) (by omega) B vk3 (s.l.eraseIdx i).length (flatK ((s.l.eraseIdx i).map (·.1))) (by rfl) _ (kcells k) (by rfl) (own_below Hks3.out (by repeat (first | exact Below.refl _ _ | refine Below.drew ?_ | refine Below.alloc ?_ (by first | (simp; done) | (simp; omega)) _))) (by rfl) (by first | exact World.news_of_block (cs := (kcells k).toArray) (blk_at _ _ _ (by simp)) | exact World.news_of_block (cs := (kcells k).toArray) (blk_alloc _ (blk_at _ _ _ (by simp)))) (by simp [Value.oneCell', kcells]) (by omega) (by first | omega | (simp; done) | (simp; omega)) ?_
        intro gk1 cap1 w4 hown1 hgrow1 hat1
        have hsz1 := hgrow1.size
        (try simp only [World.size_alloc, World.size_drew] at hsz1)
        have hlp4 : p < w4.heap.size := by omega
        have hli4 : w2.heap.size < w4.heap.size := by omega
        have hp4 := (hgrow1.block p (by first | omega | (simp; done) | (simp; omega)) (Ne.symm Hhk.out.1)).trans (blk_in (w := w3) (by repeat (first | exact Below.refl _ _ | refine Below.drew ?_ | refine Below.alloc ?_ (by first | (simp; done) | (simp; omega)) _)) H3.out.blk)
        have hi4 := (hgrow1.block w2.heap.size (by first | omega | (simp; done) | (simp; omega)) (Ne.symm Hhk.out.2.1)).trans (blk_in (w := w3) (by repeat (first | exact Below.refl _ _ | refine Below.drew ?_ | refine Below.alloc ?_ (by first | (simp; done) | (simp; omega)) _)) Hib3.out)
        obtain ⟨_, _, pp2, pp3, _, _, _, zz2, zz3, _⟩ := blk5 hp4
        obtain ⟨ii0, ii1, ii2, _⟩ := blk3 hi4
        have Hio1 := Lib.hid ((own_below His3.out (by repeat (first | exact Below.refl _ _ | refine Below.drew ?_ | refine Below.alloc ?_ (by first | (simp; done) | (simp; omega)) _))).kept hgrow1 Hne.out)
        have Hg1 := Lib.hid hgrow1
        have Hown1 := Lib.hid hown1
        have Hp4 := Lib.hid hp4
        have Hf4 := Lib.hid (Fr.grown (F := foot p [vk3.ownBlock, vi3.ownBlock]) (Fr.below (w := w3) (by repeat (first | exact Below.refl _ _ | refine Below.drew ?_ | refine Below.alloc ?_ (by first | (simp; done) | (simp; omega)) _)) _) hgrow1 (fun b hb => .inl (.inr (by simp [hb]))))
        have He4 := Lib.hid (fun (b : Nat) (hb : b < w3.heap.size) (hn : vk3.ownBlock ≠ some b) => (hgrow1.block b (by first | omega | (simp; done) | (simp; omega)) (Ne.symm hn)).trans ((Below.block (w := w3) (B := w3.heap.size) (by repeat (first | exact Below.refl _ _ | refine Below.drew ?_ | refine Below.alloc ?_ (by first | (simp; done) | (simp; omega)) _)) b hb)))
        clear hgrow1 hown1 hp4 hi4
        refine hK.out _ _ (fun _ => ?_) ?_
        · exact hSof _ (fun b hb hn hn2 => He4.out b hb hn)
        try simp only [Act.put, List.setIfInBounds_toArray, List.set_cons_zero, List.set_cons_succ]
        refine wpT_ready (rs := [15]) (by decide +kernel) (by simp) ?_
        refine AllT.cons rfl (fun K hK => ?_) AllT.nil
        · skip
          refine step_appK (by rfl) (.tmp 40) (.tmp 42) 48 (by rfl) 32 3 40 jj0 _ Try.underlying48 hj0 hy0 hy1 hy2 rfl (by omega) (by omega) B vi3 (s.l.eraseIdx i).length (flatI (vs.eraseIdx i)) (by rfl) _ [.int .i64 im'.w, .int .i64 im'.h, .slice A im'.pix.length c] (by rfl) (own_below Hio1.out (by repeat (first | exact Below.refl _ _ | refine Below.drew ?_ | refine Below.alloc ?_ (by first | (simp; done) | (simp; omega)) _))) (by rfl) (by first | exact World.news_of_block (cs := #[.int .i64 im'.w, .int .i64 im'.h, .slice A im'.pix.length c]) (blk_at _ _ _ (by simp)) | exact World.news_of_block (cs := #[.int .i64 im'.w, .int .i64 im'.h, .slice A im'.pix.length c]) ((Hg1.out.block _ (by first | omega | (simp; done) | (simp; omega)) (fun e => by have := (Hok3.out _ e.symm).2; omega)).trans (blk_at _ _ _ (by simp))) | exact World.news_of_block (cs := #[.int .i64 im'.w, .int .i64 im'.h, .slice A im'.pix.length c]) ((Hg1.out.block _ (by first | omega | (simp; done) | (simp; omega)) (fun e => by have := (Hok3.out _ e.symm).2; omega)).trans (blk_alloc _ (blk_at _ _ _ (by simp))))) (by simp [Value.oneCell']) (by omega) (by first | omega | (simp; done) | (simp; omega)) ?_
          intro gi2 cap2 w5 hown2 hgrow2 hat2
          have hsz2 := hgrow2.size
          (try simp only [World.size_alloc] at hsz2)
          have hp5 := (hgrow2.block p (by first | omega | (simp; done) | (simp; omega)) (Ne.symm Hhi.out.1)).trans (blk_in (w := w4) (by repeat (first | exact Below.refl _ _ | refine Below.drew ?_ | refine Below.alloc ?_ (by first | (simp; done) | (simp; omega)) _)) Hp4.out)
          obtain ⟨_, _, xx2, xx3, _, _, _, yy2, yy3, _⟩ := blk5 hp5
          have hne2 : (Value.slice (some ⟨gk1, 0, none⟩) ((s.l.eraseIdx i).length + 1) cap1).ownBlock ≠ vi3.ownBlock := by
            intro h
            obtain ⟨cs, hc⟩ := own_typed Hown1.out gk1 rfl
            obtain ⟨cs', hc'⟩ := own_typed Hio1.out gk1 h.symm
            rw [hc] at hc'; simp at hc'
          have Hk2 := Lib.hid ((own_below Hown1.out (by repeat (first | exact Below.refl _ _ | refine Below.drew ?_ | refine Below.alloc ?_ (by first | (simp; done) | (simp; omega)) _))).kept hgrow2 (.inr hne2))
          have Hown2 := Lib.hid hown2
          have Hp5 := Lib.hid hp5
          have Hf5 := Lib.hid (Hf4.out.trans (Fr.grown (F := foot p [vk3.ownBlock, vi3.ownBlock]) (Fr.below (w := w4) (by repeat (first | exact Below.refl _ _ | refine Below.drew ?_ | refine Below.alloc ?_ (by first | (simp; done) | (simp; omega)) _)) _) hgrow2 (fun b hb => .inl (.inr (by simp [hb])))))
          have He5 := Lib.hid (fun (b : Nat) (hb : b < w3.heap.size) (hn : vk3.ownBlock ≠ some b) (hn2 : vi3.ownBlock ≠ some b) => ((hgrow2.block b (by first | omega | (simp; done) | (simp; omega)) (Ne.symm hn2)).trans ((Below.block (w := w4) (B := w4.heap.size) (by repeat (first | exact Below.refl _ _ | refine Below.drew ?_ | refine Below.alloc ?_ (by first | (simp; done) | (simp; omega)) _)) b (by omega)))).trans (He4.out b hb hn))
          clear hgrow2 hown2 hp5 hne2
          refine hK.out _ _ (fun _ => ?_) ?_
          · exact hSof _ (fun b hb hn hn2 => He5.out b hb hn hn2)
          try simp only [Act.put, List.setIfInBounds_toArray, List.set_cons_zero, List.set_cons_succ]
          refine wpT_free_take (i := 16) (v := .pointer (some ⟨p, 0, none⟩)) rfl (by rfl) (by decide +kernel) (by decide +kernel) (by decide +kernel) (fun _ _ _ h => h) (Or.inl ⟨by rfl, by intro w hSw; go_simp⟩) ?_
          simp only [Act.put, List.setIfInBounds_toArray, List.set_cons_zero, List.set_cons_succ]
          refine wpT_free_take (i := 17) (v := .pointer (some ⟨p, 2, none⟩)) rfl (by rfl) (by decide +kernel) (by decide +kernel) (by decide +kernel) (fun _ _ _ h => h) (Or.inl ⟨by rfl, by intro w hSw; go_simp⟩) ?_
          simp only [Act.put, List.setIfInBounds_toArray, List.set_cons_zero, List.set_cons_succ]
          refine wpT_ready (rs := [18]) (by decide +kernel) (by simp) ?_
          refine AllT.cons rfl (fun K hK => ?_) AllT.nil
          go_simp
          refine hK.out _ _ (fun h => absurd h (by decide)) ?_
          try simp only [Act.put, List.setIfInBounds_toArray, List.set_cons_zero, List.set_cons_succ]
          refine wpT_free_take (i := 19) (v := .pointer (some ⟨p, 0, none⟩)) rfl (by rfl) (by decide +kernel) (by decide +kernel) (by decide +kernel) (fun _ _ _ h => h) (Or.inl ⟨by rfl, by intro w hSw; go_simp⟩) ?_
          simp only [Act.put, List.setIfInBounds_toArray, List.set_cons_zero, List.set_cons_succ]
          refine wpT_free_take (i := 20) (v := .pointer (some ⟨p, 3, none⟩)) rfl (by rfl) (by decide +kernel) (by decide +kernel) (by decide +kernel) (fun _ _ _ h => h) (Or.inl ⟨by rfl, by intro w hSw; go_simp⟩) ?_
          simp only [Act.put, List.setIfInBounds_toArray, List.set_cons_zero, List.set_cons_succ]
          refine wpT_ready (rs := [21]) (by decide +kernel) (by simp) ?_
          refine AllT.cons rfl (fun K hK => ?_) AllT.nil
          go_simp
          refine hK.out _ _ (fun h => absurd h (by decide)) ?_
          try simp only [Act.put, List.setIfInBounds_toArray, List.set_cons_zero, List.set_cons_succ]
          refine wpT_done (by decide +kernel) ?_ _
          obtain ⟨W5, hW5⟩ : ∃ W5, W5 = (w5.setCell ⟨p, 2, none⟩ (.slice (some ⟨gk1, 0, none⟩) ((s.l.eraseIdx i).length + 1) cap1)).setCell ⟨p, 3, none⟩ (.slice (some ⟨gi2, 0, none⟩) ((s.l.eraseIdx i).length + 1) cap2) := ⟨_, rfl⟩
          rw [← hW5]
          have hv5 := Hvo3.out
          rw [Hvp.out] at hv5
          obtain ⟨hrr, hfr5, himg5, hheap5, hsz5⟩ := appended H3.out k im' im'.w im'.h A im'.pix.length c (hv5.frame Hf5.out H3.out.notPix) Hp5.out Hk2.out Hown2.out Hf5.out hW5
          have hrl : w.heap.size + 1 < w3.heap.size := (Array.getElem?_eq_some_iff.1 Hrb3.out).1
          have hib5 : W5.heap[w2.heap.size]? = some (.cells #[.int .i64 im'.w, .int .i64 im'.h, .slice A im'.pix.length c] 32 (0, 0)) := (hheap5 _ (by omega)).trans ((He5.out _ hli Hhk.out.2.1 Hhi.out.2.1).trans Hib3.out)
          have hrb5 : W5.heap[w.heap.size + 1]? = some (.cells #[.int .i64 0, .int .i64 0, .slice none 0 0] 32 (0, 0)) := (hheap5 _ (by omega)).trans ((He5.out _ hrl Hhk.out.2.2.1 Hhi.out.2.2).trans Hrb3.out)
          have hpi : PixIn W5 A im'.pix.length im'.pix := by
            obtain ⟨A', n', c', he, hp⟩ := (himg5 _ _ hv5).read hpx
            simp only [Value.agg.injEq, Array.mk.injEq, List.cons.injEq, Value.slice.injEq, true_and, and_true] at he
            obtain ⟨rfl, rfl, rfl⟩ := he
            exact hp
          have hgk : w.heap.size ≤ gk1 := by
            rcases hat1 with h | h
            · have := Hb3.out gk1 (.inl h); simp at this; omega
            · (try simp at h); omega
          have hgi : w.heap.size ≤ gi2 ∧ vi3.ownBlock = some gi2 ∨ w3.heap.size ≤ gi2 := by
            rcases hat2 with h | h
            · left; refine ⟨?_, h⟩; have := Hb3.out gi2 (.inr h); simp at this; omega
            · right; (try simp at h); omega
          have hrbi : (Value.slice (some ⟨gi2, 0, none⟩) ((s.l.eraseIdx i).length + 1) cap2).ownBlock ≠ some (w.heap.size + 1) := by
            intro h
            simp only [Value.ownBlock, Option.some.injEq] at h
            rcases hgi with ⟨_, h1⟩ | h1
            · exact Hhi.out.2.2 (by rw [h1, h])
            · omega
          have hgi' : w.heap.size ≤ gi2 := by
            rcases hgi with h | h
            · exact h.1
            · omega
          have Hrr := Lib.hid hrr
          have Hfr5 := Lib.hid hfr5
          have Hrb5 := Lib.hid hrb5
          have Hpi := Lib.hid hpi
          have Hgk := Lib.hid hgk
          have Hgi := Lib.hid hgi'
          have Hrbi := Lib.hid hrbi
          obtain ⟨j0, j1, j2, _⟩ := blk3 hib5
          clear hW5 hv5 hrr hfr5 himg5 hheap5 hsz5 hib5 hrb5 hpi hgk hgi hgi' hrbi hK Hp5 Hk2 Hown2 Hf5 He5 hat1 hat2 k0 k1 k2 k3 k4 i0 i1 i2 p2 p3 z2 z3 pp2 pp3 zz2 zz3 ii0 ii1 ii2 xx2 xx3 yy2 yy3 hSof hS0 hsz1 hsz2
          go_wp2_with fail
          have K := rcopied_in A im'.pix.length c im' W5 Hpi.out
          with_reducible refine K.mono ?_
          clear K
          rintro e w6 ⟨v', rfl, him6, hb6⟩
          obtain ⟨vp', rfl, hvo6⟩ := him6
          obtain ⟨A6, c6, rfl⟩ := own_slice hvo6
          obtain ⟨r0, r1, r2, y0, y1, y2⟩ := blk3 (blk_in hb6 Hrb5.out)
          have Hvo6 := Lib.hid hvo6
          have Hb6 := Lib.hid hb6
          clear hvo6 hb6 j0 j1 j2
          go_wp2
          refine bodyPost_ret (v := .tuple #[.agg #[.int .i64 im'.w, .int .i64 im'.h, .slice A6 im'.pix.length c6], .bool true]) (by simp [results, Try.results25, go_sem, *]) rfl ⟨_, rfl, ?_⟩
          have huse : Mo.use k im' s = { s with l := s.l.eraseIdx i ++ [(k, im')] } := by simp only [Mo.use, Hrm.out]
          rw [huse]
          exact rget_end (s' := { s with l := s.l.eraseIdx i ++ [(k, im')] }) hB (huse ▸ ok_use hok Hlk.out) Hst3.out Hrr.out Hfr5.out (fun b hb => by simp only [Value.ownBlock, Option.some.injEq] at hb; exact hb ▸ Hgk.out) (fun b hb => by simp only [Value.ownBlock, Option.some.injEq] at hb; exact hb ▸ Hgi.out) Hb6.out ⟨_, rfl, Hvo6.out⟩ Hrb5.out (by omega) Hrbi.out (by omega) (Fr.setCell (F := fun b => b = w.heap.size + 1) (Fr.setCell (F := fun b => b = w.heap.size + 1) (Fr.setCell (F := fun b => b = w.heap.size + 1) (Fr.refl _ _) (.inl rfl) _) (.inl rfl) _) (.inl rfl) _)
end Go.Proofs.Ytpdjfcnlbaaogaa
