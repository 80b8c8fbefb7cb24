/- (c *Cache).Put. -/
import Derived.Test.YtpdjfcnlbaaogaaI
namespace Go.Proofs.Ytpdjfcnlbaaogaa
open Go.RowKit

theorem evict_at {w : World} {B p : Nat} (s : Mo.Ca) (m : Nat) (vo : Value) (ms : List (Mo.Ky × Value)) (hp : w.heap[p]? = some (.cells #[.int .i64 s.bud, .map (some m), vo, .int .i64 s.ev] 47 (0, 0))) (ho : w.ownsRow B 29 5 vo s.l.length (flatK (Mo.keys s))) (hm : MapIs w m ms) (hb0 : 0 ≤ s.bud) (hb1 : s.bud ≤ 1024) (hl : s.l.length ≤ 4000) (hB : B ≤ w.heap.size) :
    Calls Try.prog 43 #[.pointer (some ⟨p, 0, none⟩)] w fun e w' => e = .returned (.int .i64 ((Mo.over s : Nat) : Int)) ∧ ∃ vo', w'.heap[p]? = some (.cells #[.int .i64 s.bud, .map (some m), vo', .int .i64 (Mo.shrink s).ev] 47 (0, 0)) ∧ w'.ownsRow B 29 5 vo' (Mo.shrink s).l.length (flatK (Mo.keys (Mo.shrink s))) ∧ MapIs w' m (delAll ((Mo.keys s).take (Mo.over s)) ms) ∧ (∀ b, vo'.ownBlock = some b → w.heap.size ≤ b) ∧ Fr w w' (foot p [some m]) := by
  obtain ⟨bud, l, ev⟩ := s
  obtain ⟨bn, rfl⟩ := Int.eq_ofNat_of_zero_le hb0
  have hlk : l.length = (l.map (·.1)).length := by simp
  simp only [Mo.keys] at ho
  simp only [Mo.over, Mo.keys, Mo.shrink, Int.toNat_natCast] at *
  rcases ho.2 with ⟨rfl, h0⟩ | ⟨g, cap, cur, rfl, rest⟩
  · have hl0 : l = [] := List.eq_nil_of_length_eq_zero h0
    subst hl0
    refine (evict_nil p m bn ev w hp (by omega)).mono ?_
    rintro e w' ⟨rfl, h1, h2⟩
    refine ⟨by simp, _, by simpa using h1, ?_, ?_, fun b hb => by simp [Value.ownBlock] at hb, h2.mono fun b hb => hb.elim .inl fun h => by simp at h⟩
    · simpa [flatK] using World.ownsRow_nil w' B 29 5
    · obtain ⟨es, c, he, hn⟩ := hm
      refine ⟨es, c, (h2.block m (Array.getElem?_eq_some_iff.1 he).1 ?_).trans he, by simpa [delAll] using hn⟩
      rintro (h | h)
      · rw [h, hp] at he; simp at he
      · simp at h
  · rw [hlk] at hp ho
    refine (evict_some B p m bn (l.length - bn) g cap ev (l.map (·.1)) ms w hp (by omega) ho (by omega) hm (by omega)).mono ?_
    rintro e w' ⟨rfl, vo', h1, h2, h3, h4⟩
    refine ⟨rfl, vo', h1, ?_, h3, fun b hb => (h2.lt b hb).1, h4⟩
    have : (l.drop (l.length - bn)).length = ((l.map (·.1)).drop (l.length - bn)).length := by simp
    rw [this, List.map_drop]
    exact own_lower h2 hB

theorem put_none {w : World} {B p : Nat} {s : Mo.Ca} {F : Nat → Prop} (h : CAt w B p s F) (k : Mo.Ky) (i : Mo.Im) (A : Option Addr) (n c : Nat) (h0 : s.bud = 0) : Calls Try.prog 26 #[.pointer (some ⟨p, 0, none⟩), kv k, .agg #[.int .i64 i.w, .int .i64 i.h, .slice A n c]] w fun e w' => e = .returned (.tuple #[]) ∧ Below w.heap.size w w' := by
  obtain ⟨hok, _, m, vo, ms, hr, rfl⟩ := h
  have hlt := (Array.getElem?_eq_some_iff.1 hr.blk).1
  have hlt1 : p < w.heap.size + 1 := by omega
  have hblk := hr.blk
  rw [h0] at hblk
  have hp2 := blk_alloc (.cells #[.int .i64 i.w, .int .i64 i.h, .slice A n c] 32) (blk_alloc (.cells #[.int .i64 k.node, .int .i64 k.stamp, .int .i64 k.level, .int .i64 k.x, .int .i64 k.y] 29) hblk)
  have cm := (blk4 hp2).2.1
  obtain ⟨c0, _⟩ := blk4 hblk
  have Cm := Lib.hid cm
  clear hr hp2 cm hblk h0
  unfold kv
  go_enter Try.func26, Try.ntmps26
  go_wp2_with (go_at_call 34; refine (made_yes p m _ Cm.out).mono ?_; rintro e w1 ⟨rfl, rfl⟩)
  refine bodyPost_ret (v := .tuple #[]) (by simp [results, Try.results26, go_sem]) rfl ⟨rfl, ?_⟩
  repeat (first | exact Below.refl _ _ | refine Below.drew ?_ | refine Below.setCell ?_ (by first | (simp; done) | (simp; omega)) _ | refine Below.alloc ?_ (by first | (simp; done) | (simp; omega)) _)

set_option maxHeartbeats 1000000 in
theorem put_some {w : World} {B p : Nat} {s : Mo.Ca} {F : Nat → Prop} (h : CAt w B p s F) (k : Mo.Ky) (i : Mo.Im) (A : Option Addr) (n c : Nat) (h0 : s.bud ≠ 0) (hi : PixIn w A n i.pix) : Calls Try.prog 26 #[.pointer (some ⟨p, 0, none⟩), kv k, .agg #[.int .i64 i.w, .int .i64 i.h, .slice A n c]] w fun e w' => e = .returned (.tuple #[]) ∧ ∃ F', CAt w' B p (Mo.put k i s) F' ∧ Stp w w' F F' := by
  have hnp := h.notPix
  have hltF := h.lt
  obtain ⟨hok, hB, m, vo, ms, hr, rfl⟩ := h
  have hlt := (Array.getElem?_eq_some_iff.1 hr.blk).1
  have hlt1 : p < w.heap.size + 1 := by omega
  have hlt2 : p < w.heap.size + 1 + 1 := by omega
  have hbud : (s.bud == 0) = false := by simpa using h0
  obtain ⟨c0, c1, c2, c3, f0, f1, f2, f3⟩ := blk4 hr.blk
  have hp2 := blk_alloc (.cells #[.int .i64 i.w, .int .i64 i.h, .slice A n c] 32) (blk_alloc (.cells #[.int .i64 k.node, .int .i64 k.stamp, .int .i64 k.level, .int .i64 k.x, .int .i64 k.y] 29) hr.blk)
  have cm := (blk4 hp2).2.1
  have Cm := Lib.hid cm
  have Hr := Lib.hid hr
  clear hr hp2 cm
  unfold kv
  go_enter Try.func26, Try.ntmps26
  go_wp2_with (go_at_call 34; refine (made_yes p m _ Cm.out).mono ?_; rintro e w1 ⟨rfl, rfl⟩)
  obtain ⟨W, hW⟩ : ∃ W, W = ((w.alloc (.cells #[.int .i64 k.node, .int .i64 k.stamp, .int .i64 k.level, .int .i64 k.x, .int .i64 k.y] 29)).alloc (.cells #[.int .i64 i.w, .int .i64 i.h, .slice A n c] 32)) := ⟨_, rfl⟩
  rw [← hW]
  have hbW : Below w.heap.size w W := by rw [hW]; exact ((Below.alloc (Below.refl _ _) (Nat.le_refl _) _).alloc (by simp) _)
  have hkW : W.heap[w.heap.size]? = some (.cells #[.int .i64 k.node, .int .i64 k.stamp, .int .i64 k.level, .int .i64 k.x, .int .i64 k.y] 29 (0, 0)) := by rw [hW]; exact blk_alloc _ (blk_new w _)
  have hiW : W.heap[w.heap.size + 1]? = some (.cells #[.int .i64 i.w, .int .i64 i.h, .slice A n c] 32 (0, 0)) := by rw [hW]; exact blk_at _ _ _ (by simp)
  have hpW := blk_in hbW Hr.out.blk
  have hinW : InIm W.drew (.agg #[.int .i64 i.w, .int .i64 i.h, .slice A n c]) i := ⟨A, n, c, rfl, (hi.below hbW).drew⟩
  obtain ⟨es, ck, hes, hent⟩ := Hr.out.map
  have hesW := blk_in hbW hes
  have hkm : w.heap.size ≠ m := fun e => by rw [← e] at hes; have := (Array.getElem?_eq_some_iff.1 hes).1; omega
  have him : w.heap.size + 1 ≠ m := fun e => by rw [← e] at hes; have := (Array.getElem?_eq_some_iff.1 hes).1; omega
  have hpm : p ≠ m := fun e => by rw [← e, Hr.out.blk] at hes; simp at hes
  clear hW c0 c1 c2 c3 f0 f1 f2 f3
  obtain ⟨_, c1, _⟩ := blk4 hpW
  obtain ⟨k0, k1, k2, k3, k4, _⟩ := blk5 hkW
  obtain ⟨i0, i1, i2, _⟩ := blk3 hiW
  have HpW := Lib.hid hpW
  have HkW := Lib.hid hkW
  have HiW := Lib.hid hiW
  have HbW := Lib.hid hbW
  have Hes := Lib.hid hesW
  have Hen := Lib.hid hent
  have Hin := Lib.hid hinW
  clear hpW hkW hiW hbW hesW hes hent hinW
  go_region_held3 (fun w' => w'.cell? ⟨p, 1, none⟩ = some (.map (some m)) ∧ w'.cell? ⟨w.heap.size, 0, none⟩ = some (.int .i64 k.node) ∧ w'.cell? ⟨w.heap.size, 1, none⟩ = some (.int .i64 k.stamp) ∧ w'.cell? ⟨w.heap.size, 2, none⟩ = some (.int .i64 k.level) ∧ w'.cell? ⟨w.heap.size, 3, none⟩ = some (.int .i64 k.x) ∧ w'.cell? ⟨w.heap.size, 4, none⟩ = some (.int .i64 k.y) ∧ w'.cell? ⟨w.heap.size + 1, 0, none⟩ = some (.int .i64 i.w) ∧ w'.cell? ⟨w.heap.size + 1, 1, none⟩ = some (.int .i64 i.h) ∧ w'.cell? ⟨w.heap.size + 1, 2, none⟩ = some (.slice A n c))
    (first
      | go_keep
      | exact Hk1.out
      | exact Hk2.out)
    ((go_at_call 38; refine (copied_in _ i _ Hin.out).mono ?_; rintro e w1 ⟨v', rfl, hi1, hb1⟩
      have hp1 := blk_in hb1 HpW.out
      have hk1 := blk_in hb1 HkW.out
      have hi1b := blk_in hb1 HiW.out
      have Hk1 := Lib.hid (⟨(blk4 hp1).2.1, (blk5 hk1).1, (blk5 hk1).2.1, (blk5 hk1).2.2.1, (blk5 hk1).2.2.2.1, (blk5 hk1).2.2.2.2.1, (blk3 hi1b).1, (blk3 hi1b).2.1, (blk3 hi1b).2.2.1⟩ : w1.cell? ⟨p, 1, none⟩ = some (.map (some m)) ∧ w1.cell? ⟨w.heap.size, 0, none⟩ = some (.int .i64 k.node) ∧ w1.cell? ⟨w.heap.size, 1, none⟩ = some (.int .i64 k.stamp) ∧ w1.cell? ⟨w.heap.size, 2, none⟩ = some (.int .i64 k.level) ∧ w1.cell? ⟨w.heap.size, 3, none⟩ = some (.int .i64 k.x) ∧ w1.cell? ⟨w.heap.size, 4, none⟩ = some (.int .i64 k.y) ∧ w1.cell? ⟨w.heap.size + 1, 0, none⟩ = some (.int .i64 i.w) ∧ w1.cell? ⟨w.heap.size + 1, 1, none⟩ = some (.int .i64 i.h) ∧ w1.cell? ⟨w.heap.size + 1, 2, none⟩ = some (.slice A n c))
      obtain ⟨es', ck', hup, hen'⟩ := update45 w1 m k v' es ck ms (blk_in hb1 Hes.out) Hen.out
      simp only [kv] at hup
      have hp2 := map_far hp1 hpm (.map es' ck')
      have hk2 := map_far hk1 hkm (.map es' ck')
      have hi2 := map_far hi1b him (.map es' ck')
      have Hk2 := Lib.hid (⟨(blk4 hp2).2.1, (blk5 hk2).1, (blk5 hk2).2.1, (blk5 hk2).2.2.1, (blk5 hk2).2.2.2.1, (blk5 hk2).2.2.2.2.1, (blk3 hi2).1, (blk3 hi2).2.1, (blk3 hi2).2.2.1⟩ : (ChangeMaps.setBlock w1 m (.map es' ck')).cell? ⟨p, 1, none⟩ = some (.map (some m)) ∧ (ChangeMaps.setBlock w1 m (.map es' ck')).cell? ⟨w.heap.size, 0, none⟩ = some (.int .i64 k.node) ∧ (ChangeMaps.setBlock w1 m (.map es' ck')).cell? ⟨w.heap.size, 1, none⟩ = some (.int .i64 k.stamp) ∧ (ChangeMaps.setBlock w1 m (.map es' ck')).cell? ⟨w.heap.size, 2, none⟩ = some (.int .i64 k.level) ∧ (ChangeMaps.setBlock w1 m (.map es' ck')).cell? ⟨w.heap.size, 3, none⟩ = some (.int .i64 k.x) ∧ (ChangeMaps.setBlock w1 m (.map es' ck')).cell? ⟨w.heap.size, 4, none⟩ = some (.int .i64 k.y) ∧ (ChangeMaps.setBlock w1 m (.map es' ck')).cell? ⟨w.heap.size + 1, 0, none⟩ = some (.int .i64 i.w) ∧ (ChangeMaps.setBlock w1 m (.map es' ck')).cell? ⟨w.heap.size + 1, 1, none⟩ = some (.int .i64 i.h) ∧ (ChangeMaps.setBlock w1 m (.map es' ck')).cell? ⟨w.heap.size + 1, 2, none⟩ = some (.slice A n c))
      have HM2 := Lib.hid (⟨es', ck', map_set (blk_in hb1 Hes.out) _, hen'⟩ : MapIs (ChangeMaps.setBlock w1 m (.map es' ck')) m (upd k v' ms))
      have Hp2 := Lib.hid hp2
      have Hkk2 := Lib.hid hk2
      clear hp1 hk1 hi1b hp2 hk2 hi2 hen'))
  have hf2 : Fr W (ChangeMaps.setBlock w1 m (.map es' ck')) (fun b => b = m) := Fr.setBlock (Fr.trans (Fr.drew (Fr.refl W (fun b => b = m))) (Fr.below hb1 _)) (m := m) (.inl rfl) _
  obtain ⟨q0, q1, q2, q3, q4, _⟩ := blk5 Hkk2.out
  have Hf2 := Lib.hid hf2
  clear hf2 hup
  go_wp2_with fail
  have hfW : Fr w (ChangeMaps.setBlock w1 m (.map es' ck')) (fun b => b = m) := (Fr.below HbW.out _).trans Hf2.out
  have hvm : ∀ b, vo.ownBlock = some b → ¬ b = m := by
    rintro b hb rfl
    obtain ⟨cs, hc⟩ := own_typed Hr.out.ord b hb
    obtain ⟨es, ck, hes, _⟩ := Hr.out.map
    rw [hc] at hes; simp at hes
  refine (use_at s k i m vo Hp2.out (own_frame Hr.out.ord hfW hvm) hok (Nat.le_trans hB hfW.size)).mono ?_
  rintro e w3 ⟨rfl, vo3, hp3, ho3, hb3, hf3⟩
  have hm3 : MapIs w3 m (upd k v' ms) := MapIs.frame HM2.out hf3 (by
    rintro (h | h)
    · exact hpm h.symm
    · simp only [List.mem_cons, List.not_mem_nil, or_false] at h
      exact hvm m h.symm rfl)
  have hlen3 : (Mo.use k i s).l.length ≤ 4000 := by
    have := rm_le k s.l; have := hok.len; have := hok.b1
    simp only [Mo.use, List.length_append, List.length_cons, List.length_nil]; omega
  have Hp3 := Lib.hid hp3
  have Ho3 := Lib.hid ho3
  have Hm3 := Lib.hid hm3
  have Hf3 := Lib.hid hf3
  have HfW := Lib.hid hfW
  clear hp3 ho3 hm3 hf3 hfW q0 q1 q2 q3 q4
  go_wp2_with fail
  refine (evict_at (Mo.use k i s) m vo3 (upd k v' ms) Hp3.out Ho3.out Hm3.out hok.b0 hok.b1 hlen3 (Nat.le_trans hB (Nat.le_trans HfW.out.size Hf3.out.size))).mono ?_
  rintro e w4 ⟨rfl, vo4, hp4, ho4, hm4, hb4, hf4⟩
  go_wp2
  go_end0
  have hst : Fr w w4 (foot p [some m, vo.ownBlock]) := ((HfW.out.mono fun b hb => .inr (by simp [hb])).trans (Hf3.out.mono fun b hb => hb.elim .inl fun h => .inr (by simp at h; simp [h]))).trans (hf4.mono fun b hb => hb.elim .inl fun h => .inr (by simp at h; simp [h]))
  have hput : Mo.put k i s = Mo.shrink (Mo.use k i s) := by simp [Mo.put, h0]
  obtain ⟨hnd4, hlk4⟩ := delAll_spec ((Mo.keys (Mo.use k i s)).take (Mo.over (Mo.use k i s))) (upd k v' ms) (nodup_upd k v' ms Hr.out.nd)
  refine ⟨rfl, _, ⟨by rw [hput]; exact hput ▸ ok_put hok k i, Nat.le_trans hB hst.size, m, vo4, _, ⟨by rw [hput]; exact hp4, hm4, by rw [hput]; exact ho4, hnd4, fun q => ?_, Hr.out.hp, Hr.out.hm⟩, rfl⟩, hst, ?_⟩
  · rw [hput, hlk4 q]
    show RelI w4 B _ (Mo.look q ((Mo.use k i s).l.drop (Mo.over (Mo.use k i s))))
    rw [look_drop _ (Mo.use k i s).l (rm_nodup hok.nd i)]
    have hks : Mo.keys (Mo.use k i s) = ((Mo.use k i s).l.map (·.1)) := rfl
    rw [hks]
    split
    · trivial
    · show RelI w4 B _ (Mo.look q (Mo.rm k s.l ++ [(k, i)]))
      rw [look_use, look_upd]
      split
      · have hw1 : Fr w1 w4 (foot p [some m, vo.ownBlock]) := ((Fr.setBlock (Fr.refl w1 (foot p [some m, vo.ownBlock])) (m := m) (.inl (.inr (by simp))) _).trans (Hf3.out.mono fun b hb => hb.elim .inl fun h => .inr (by simp at h; simp [h]))).trans (hf4.mono fun b hb => hb.elim .inl fun h => .inr (by simp at h; simp [h]))
        have hbw1 : Below w.heap.size w w1 := HbW.out.trans ⟨hb1.os, hb1.tape, hb1.output, hb1.size, fun k hk => hb1.block k (Nat.lt_of_lt_of_le hk HbW.out.size)⟩
        refine (ImIs.lower (B := W.drew.heap.size) hi1 (Nat.le_trans hB HbW.out.size)).frame hw1 fun b hb cs fr he => hnp b hb cs fr ?_
        rw [← hbw1.block b (hltF b hb).2]; exact he
      · exact (Hr.out.ims q).frame hst hnp
  · rintro b (h | h)
    · exact .inl (.inl h)
    · simp only [List.mem_cons, Option.some.injEq, List.not_mem_nil, or_false] at h
      rcases h with h | h
      · exact .inl (.inr (by simp [h]))
      · exact .inr (Nat.le_trans (Nat.le_trans HfW.out.size Hf3.out.size) (hb4 b h.symm))
end Go.Proofs.Ytpdjfcnlbaaogaa
