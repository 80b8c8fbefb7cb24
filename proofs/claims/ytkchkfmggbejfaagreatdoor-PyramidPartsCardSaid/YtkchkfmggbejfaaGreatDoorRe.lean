/- The program's Reduce. -/
import Derived.Test.YtkchkfmggbejfaaGreatDoorFl
import Derived.Test.YtkchkfmggbejfaaGreatDoorPax2
import Derived.Test.YtkchkfmggbejfaaGreatDoorPax4
import Derived.Test.YtkchkfmggbejfaaGreatDoorPax5
namespace Go.Proofs.YtkchkfmggbejfaaGreatDoor
open Go.RowKit Go.Proofs.YtkchkfmggbejfaaGreatDoorW.PrintWords
set_option linter.unusedSimpArgs false
set_option maxRecDepth 20000

def red (k : Nat) : Nat → Int → Int → List Pa.S44 → Option (Int × Int × List Pa.S44)
  | 0, a, b, l => some (a, b, l)
  | n + 1, a, b, l => (red k n a b l).bind fun t => Pa.pyramid_half.f k t.1 t.2.1 t.2.2
theorem red_some {k a b l} : ∀ {n m : Nat}, m ≤ n → (red k n a b l).isSome → (red k m a b l).isSome := by
  intro n
  induction n with
  | zero => intro m hm h; obtain rfl : m = 0 := by omega
            exact h
  | succ n ih =>
    intro m hm h
    rcases Nat.lt_or_ge m (n + 1) with h1 | h1
    · refine ih (by omega) ?_
      simp only [red] at h
      cases hr : red k n a b l with
      | none => rw [hr] at h; simp at h
      | some t => rfl
    · obtain rfl : m = n + 1 := by omega
      exact h

theorem blk_set {w : World} {b : Nat} {cs : Array Value} {t : TypeId} {fr : Nat × Nat} (h : w.heap[b]? = some (.cells cs t fr)) (i : Nat) (v : Value) : (w.setCell ⟨b, i, none⟩ v).heap[b]? = some (.cells (cs.setIfInBounds i v) t fr) := by
  simp [World.setCell, Array.getElem?_modify, h]
theorem blk_far {w : World} {b : Nat} {o : Obj} (h : w.heap[b]? = some o) {a : Addr} (hne : b ≠ a.block) (v : Value) : (w.setCell a v).heap[b]? = some o := (Below.heap_setCell w a v b hne).trans h

theorem reduce_bad (k : Nat) (a b : Int) (A : Option Addr) (c : Nat) (l : List Pa.S44) (lv e : Int) (w : World) (hr : Kd.C Pa.k44 w A l.length l) (hc : l.length ≤ c) (h : Pa.raster_Check.f k a b l = some e) (he : e ≠ 0) :
    Calls Tryz.prog 17 #[.agg #[.int .i64 a, .int .i64 b, .slice A l.length c], .int .i64 lv] w fun en w' => en = .returned (.tuple #[.agg #[.int .i64 0, .int .i64 0, .slice none 0 0], .int .i64 e]) ∧ Below w.heap.size w w' := by
  obtain ⟨W, hW⟩ : ∃ W, W = (w.alloc (.cells #[.int .i64 a, .int .i64 b, .slice A l.length c] 31)).alloc (.cells #[.int .i64 0, .int .i64 0, .slice none 0 0] 31) := ⟨_, rfl⟩
  have hbW : Below w.heap.size w W := by rw [hW]; exact (bel_alloc _ _).alloc (by simp) _
  have h2 : W.heap[w.heap.size]? = some (.cells #[.int .i64 a, .int .i64 b, .slice A l.length c] 31 (0, 0)) := by rw [hW]; exact blk_in (bel_alloc _ _) (blk_new w _)
  have h4 : W.heap[w.heap.size + 1]? = some (.cells #[.int .i64 0, .int .i64 0, .slice none 0 0] 31 (0, 0)) := by rw [hW]; exact blk_at _ _ _ (by simp)
  have HW := Lib.hid hW
  have HbW := Lib.hid hbW
  have H4 := Lib.hid h4
  have Hr := Lib.hid (Kd.C_below hr hbW)
  have Hh := Lib.hid h
  obtain ⟨c0, c1, c2, _⟩ := blk3 h2
  clear hW hbW h2 h4 hr h
  go_enter Tryz.func17, Tryz.ntmps17
  go_wp2_with fail
  rw [← HW.out]
  have K := Pa.raster_Check.calls k a b A c l e W Hr.out hc Hh.out
  with_reducible refine K.mono ?_
  clear K
  rintro en w1 ⟨rfl, hb⟩
  obtain ⟨d0, d1, d2, y0, y1, y2⟩ := blk3 (blk_in hb H4.out)
  have hl4 : w.heap.size + 1 < w1.heap.size := (Array.getElem?_eq_some_iff.1 (blk_in hb H4.out)).1
  have hn : decide (e = 0) = false := by simp [he]
  have Hb := Lib.hid hb
  clear hb
  go_wp2
  refine bodyPost_ret (v := .tuple #[.agg #[.int .i64 0, .int .i64 0, .slice none 0 0], .int .i64 e]) (by simp [results, Tryz.results17, go_sem, *]) rfl ⟨rfl, ?_⟩
  have hb := HbW.out.trans (Hb.out.mono HbW.out.size)
  refine Below.setCell (Below.setCell (Below.setCell hb ?_ _) ?_ _) ?_ _ <;> (simp; try omega)

theorem reduce_range (k : Nat) (a b : Int) (A : Option Addr) (c : Nat) (l : List Pa.S44) (lv : Int) (w : World) (hr : Kd.C Pa.k44 w A l.length l) (hc : l.length ≤ c) (h : Pa.raster_Check.f k a b l = some 0) (hl : Pa.pyramid_isLevel.f lv = some false) :
    Calls Tryz.prog 17 #[.agg #[.int .i64 a, .int .i64 b, .slice A l.length c], .int .i64 lv] w fun en w' => en = .returned (.tuple #[.agg #[.int .i64 0, .int .i64 0, .slice none 0 0], .int .i64 2]) ∧ Below w.heap.size w w' := by
  obtain ⟨W, hW⟩ : ∃ W, W = (w.alloc (.cells #[.int .i64 a, .int .i64 b, .slice A l.length c] 31)).alloc (.cells #[.int .i64 0, .int .i64 0, .slice none 0 0] 31) := ⟨_, rfl⟩
  have hbW : Below w.heap.size w W := by rw [hW]; exact (bel_alloc _ _).alloc (by simp) _
  have h2 : W.heap[w.heap.size]? = some (.cells #[.int .i64 a, .int .i64 b, .slice A l.length c] 31 (0, 0)) := by rw [hW]; exact blk_in (bel_alloc _ _) (blk_new w _)
  have h4 : W.heap[w.heap.size + 1]? = some (.cells #[.int .i64 0, .int .i64 0, .slice none 0 0] 31 (0, 0)) := by rw [hW]; exact blk_at _ _ _ (by simp)
  have HW := Lib.hid hW
  have HbW := Lib.hid hbW
  have H4 := Lib.hid h4
  have Hr := Lib.hid (Kd.C_below hr hbW)
  have Hh := Lib.hid h
  obtain ⟨c0, c1, c2, _⟩ := blk3 h2
  clear hW hbW h2 h4 hr h
  go_enter Tryz.func17, Tryz.ntmps17
  go_wp2_with fail
  rw [← HW.out]
  have K := Pa.raster_Check.calls k a b A c l 0 W Hr.out hc Hh.out
  with_reducible refine K.mono ?_
  clear K
  rintro en w1 ⟨rfl, hb⟩
  have H4' := Lib.hid (blk_in hb H4.out)
  have Hb := Lib.hid hb
  clear hb
  go_wp2_with fail
  have K := Pa.pyramid_isLevel.calls lv false w1 hl
  with_reducible refine K.mono ?_
  clear K
  rintro en w2 ⟨rfl, hd⟩
  have hb2 := hd.below
  obtain ⟨d0, d1, d2, y0, y1, y2⟩ := blk3 (blk_in hb2 H4'.out)
  have hl4 : w.heap.size + 1 < w2.heap.size := (Array.getElem?_eq_some_iff.1 (blk_in hb2 H4'.out)).1
  have Hb2 := Lib.hid (Hb.out.trans (hb2.mono Hb.out.size))
  clear hb2 hd
  go_wp2
  refine bodyPost_ret (v := .tuple #[.agg #[.int .i64 0, .int .i64 0, .slice none 0 0], .int .i64 2]) (by simp [results, Tryz.results17, go_sem, *]) rfl ⟨rfl, ?_⟩
  have hb := HbW.out.trans (Hb2.out.mono HbW.out.size)
  refine Below.setCell (Below.setCell (Below.setCell hb ?_ _) ?_ _) ?_ _ <;> (simp; try omega)

set_option maxHeartbeats 2000000 in
theorem reduce_ok (k : Nat) (a b : Int) (A : Option Addr) (c : Nat) (l : List Pa.S44) (lv : Nat) (r1 r2 : Int) (r3 : List Pa.S44) (w : World) (hr : Kd.C Pa.k44 w A l.length l) (hc : l.length ≤ c) (h : Pa.raster_Check.f k a b l = some 0) (hl : Pa.pyramid_isLevel.f lv = some true) (hlen : l.length ≤ 100000) (h4l : lv ≤ 4) (hred : red k lv a b l = some (r1, r2, r3)) :
    Calls Tryz.prog 17 #[.agg #[.int .i64 a, .int .i64 b, .slice A l.length c], .int .i64 lv] w fun en w' => ∃ v, en = .returned (.tuple #[.agg #[.int .i64 r1, .int .i64 r2, v], .int .i64 0]) ∧ Kd.R Pa.k44 44 w' w.heap.size (fun _ => True) v r3 ∧ Below w.heap.size w w' := by
  obtain ⟨W, hW⟩ : ∃ W, W = (w.alloc (.cells #[.int .i64 a, .int .i64 b, .slice A l.length c] 31)).alloc (.cells #[.int .i64 0, .int .i64 0, .slice none 0 0] 31) := ⟨_, rfl⟩
  have hbW : Below w.heap.size w W := by rw [hW]; exact (bel_alloc _ _).alloc (by simp) _
  have h2 : W.heap[w.heap.size]? = some (.cells #[.int .i64 a, .int .i64 b, .slice A l.length c] 31 (0, 0)) := by rw [hW]; exact blk_in (bel_alloc _ _) (blk_new w _)
  have h4 : W.heap[w.heap.size + 1]? = some (.cells #[.int .i64 0, .int .i64 0, .slice none 0 0] 31 (0, 0)) := by rw [hW]; exact blk_at _ _ _ (by simp)
  have HW := Lib.hid hW
  have HbW := Lib.hid hbW
  have H2 := Lib.hid h2
  have H4 := Lib.hid h4
  have Hr := Lib.hid (Kd.C_below hr hbW)
  have Hh := Lib.hid h
  have Hred := Lib.hid hred
  obtain ⟨c0, c1, c2, _⟩ := blk3 h2
  clear hW hbW h2 h4 hr h hred
  go_enter Tryz.func17, Tryz.ntmps17
  go_wp2_with fail
  rw [← HW.out]
  have K := Pa.raster_Check.calls k a b A c l 0 W Hr.out hc Hh.out
  with_reducible refine K.mono ?_
  clear K
  rintro en w1 ⟨rfl, hb⟩
  have H2a := Lib.hid (blk_in hb H2.out)
  have H4a := Lib.hid (blk_in hb H4.out)
  have Hb1 := Lib.hid (HbW.out.trans (hb.mono HbW.out.size))
  have Hr1 := Lib.hid (Kd.C_below Hr.out hb)
  clear hb
  go_wp2_with fail
  have K := Pa.pyramid_isLevel.calls lv true w1 hl
  with_reducible refine K.mono ?_
  clear K
  rintro en w2 ⟨rfl, hd⟩
  have hb := hd.below
  have H2b := Lib.hid (blk_in hb H2a.out)
  have H4b := Lib.hid (blk_in hb H4a.out)
  have Hb2 := Lib.hid (Hb1.out.trans (hb.mono Hb1.out.size))
  have Hr2 := Lib.hid (Kd.C_below Hr1.out hb)
  clear hb hd c0 c1 c2
  obtain ⟨c0, c1, c2, _⟩ := blk3 H2b.out
  go_wp2_with fail
  have K := clone_px A c l w2 Hr2.out hlen
  with_reducible refine K.mono ?_
  clear K
  rintro en w3 ⟨v3, rfl, hv3, hb⟩
  obtain ⟨A3, c3, rfl⟩ := Kd.R_slice hv3
  have H2c := Lib.hid (blk_in hb H2b.out)
  have H4c := Lib.hid (blk_in hb H4b.out)
  have Hb3 := Lib.hid (Hb2.out.trans (hb.mono Hb2.out.size))
  have Hv3 := Lib.hid (Kd.R_lower hv3 Hb2.out.size)
  clear hb hv3 c0 c1 c2
  obtain ⟨c0, c1, c2, f0, f1, f2⟩ := blk3 H2c.out
  have hl2 : w.heap.size < w3.heap.size := (Array.getElem?_eq_some_iff.1 H2c.out).1
  go_wp2_with fail
  have hs2 := blk_set H2c.out 2 (.slice A3 l.length c3)
  have hs4 : (w3.setCell ⟨w.heap.size, 2, none⟩ (.slice A3 l.length c3)).heap[w.heap.size + 1]? = _ := blk_far H4c.out (by simp) _
  have hsv : Kd.R Pa.k44 44 (w3.setCell ⟨w.heap.size, 2, none⟩ (.slice A3 l.length c3)) w.heap.size (fun _ => True) (.slice A3 l.length c3) l := Kd.R_set Hv3.out H2c.out (by decide) 2 _
  have hsb : Below w.heap.size w (w3.setCell ⟨w.heap.size, 2, none⟩ (.slice A3 l.length c3)) := Below.setCell Hb3.out (Nat.le_refl _) _
  have HS2 := Lib.hid hs2
  have HS4 := Lib.hid hs4
  have HSv := Lib.hid hsv
  have HSb := Lib.hid hsb
  clear hs2 hs4 hsv hsb c0 c1 c2 f0 f1 f2
  go_loopw [22] (fun v22 wr => ∃ (j : Nat) (q1 q2 : Int) (q3 : List Pa.S44) (v : Value), j ≤ lv ∧ v22 = .int .i64 j ∧ red k j a b l = some (q1, q2, q3) ∧ wr.heap[w.heap.size]? = some (.cells #[.int .i64 q1, .int .i64 q2, v] 31 (0, 0)) ∧ wr.heap[w.heap.size + 1]? = some (.cells #[.int .i64 0, .int .i64 0, .slice none 0 0] 31 (0, 0)) ∧ Kd.R Pa.k44 44 wr w.heap.size (fun _ => True) v q3 ∧ Below w.heap.size w wr) (fun v _ => lv - (intOf v).toNat)
  case atStart => exact ⟨0, a, b, l, _, Nat.zero_le _, rfl, rfl, HS2.out, HS4.out, HSv.out, HSb.out⟩
  case round =>
    obtain ⟨j, q1, q2, q3, v, hj, rfl, hq, hb2, hb4, hv, hb⟩ := hrel
    obtain ⟨A4, c4, rfl, hcap, hC⟩ := Kd.R_reads hv
    obtain ⟨c0, c1, c2, f0, f1, f2⟩ := blk3 hb2
    have Hq := Lib.hid hq
    have G2 := Lib.hid hb2
    have G4 := Lib.hid hb4
    have Gv := Lib.hid hv
    have Gb := Lib.hid hb
    have GC := Lib.hid hC
    clear hq hb2 hb4 hv hb hC
    by_cases hlt : j < lv
    · obtain ⟨⟨s1, s2, s3⟩, hs⟩ : ∃ t, Pa.pyramid_half.f k q1 q2 q3 = some t := by
        have h1 : (red k (j + 1) a b l).isSome := red_some (n := lv) (by omega) (by rw [Hred.out]; rfl)
        simp only [red, Hq.out, Option.bind_some] at h1
        exact Option.isSome_iff_exists.1 h1
      have hjl : (j : Int) < (lv : Int) := by omega
      have Hs := Lib.hid hs
      clear hs
      go_wp2_with fail
      have K := Pa.pyramid_half.calls k q1 q2 A4 c4 q3 s1 s2 s3 wr GC.out hcap Hs.out
      with_reducible refine K.mono ?_
      clear K
      rintro en w5 ⟨v5, rfl, hv5, hb5⟩
      obtain ⟨A5, c5, rfl⟩ := Kd.R_slice hv5
      have G2' := Lib.hid (blk_in hb5 G2.out)
      have G4' := Lib.hid (blk_in hb5 G4.out)
      have Gb' := Lib.hid (Gb.out.trans (hb5.mono Gb.out.size))
      have Gv' := Lib.hid (Kd.R_lower hv5 Gb.out.size)
      clear hv5 hb5 c0 c1 c2 f0 f1 f2
      obtain ⟨c0, c1, c2, f0, f1, f2⟩ := blk3 G2'.out
      have hl5 : w.heap.size < w5.heap.size := (Array.getElem?_eq_some_iff.1 G2'.out).1
      go_wp2
      go_roundw
      case rel =>
        refine ⟨j + 1, s1, s2, s3, _, by omega, by go_num, by simp only [red, Hq.out, Option.bind_some]; exact Hs.out, blk_set (blk_set (blk_set G2'.out 0 _) 1 _) 2 _, blk_far (blk_far (blk_far G4'.out (by simp) _) (by simp) _) (by simp) _, set3 Gv'.out G2'.out (by decide) _ _ _, ?_⟩
        exact Below.setCell (Below.setCell (Below.setCell Gb'.out (Nat.le_refl _) _) (Nat.le_refl _) _) (Nat.le_refl _) _
      case measure => simp [intOf]; omega
    · obtain rfl : j = lv := by omega
      obtain ⟨rfl, rfl, rfl⟩ : q1 = r1 ∧ q2 = r2 ∧ q3 = r3 := by
        have := Hq.out.symm.trans Hred.out
        simpa using this
      obtain ⟨d0, d1, d2, y0, y1, y2⟩ := blk3 G4.out
      have hl4 : w.heap.size + 1 < wr.heap.size := (Array.getElem?_eq_some_iff.1 G4.out).1
      go_wp2
      refine bodyPost_ret (v := .tuple #[.agg #[.int .i64 q1, .int .i64 q2, .slice A4 q3.length c4], .int .i64 0]) (by simp [results, Tryz.results17, go_sem, *]) rfl ⟨_, rfl, set3 Gv.out G4.out (by decide) _ _ _, ?_⟩
      refine Below.setCell (Below.setCell (Below.setCell Gb.out ?_ _) ?_ _) ?_ _ <;> (simp; try omega)
end Go.Proofs.YtkchkfmggbejfaaGreatDoor
