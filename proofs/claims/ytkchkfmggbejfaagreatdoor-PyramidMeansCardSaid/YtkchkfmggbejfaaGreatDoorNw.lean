/- The program's New. -/
import Derived.Test.YtkchkfmggbejfaaGreatDoorFi
import Derived.Test.YtkchkfmggbejfaaGreatDoorHz
namespace Go.Proofs.YtkchkfmggbejfaaGreatDoor
open Go.RowKit Go.Proofs.YtkchkfmggbejfaaGreatDoorW.PrintWords
set_option linter.unusedSimpArgs false
set_option maxRecDepth 20000

theorem cl47 (p : Pa.S44) (b x y : Nat) (w : World) (h : w.heap[b]? = some (.cells #[.int .i64 p.f0, .int .i64 p.f1, .int .i64 p.f2, .int .i64 p.f3] 44 (0, 0))) :
    Calls Tryz.prog 47 #[.int .i64 x, .int .i64 y, .pointer (some ⟨b, 0, none⟩)] w fun en w' => en = .returned (pv p) ∧ Below w.heap.size w w' := by
  obtain ⟨W, hW⟩ : ∃ W, W = w.alloc (.cells #[.int .i64 0, .int .i64 0, .int .i64 0, .int .i64 0] 44) := ⟨_, rfl⟩
  have hb : Below w.heap.size w W := by rw [hW]; exact bel_alloc _ _
  have hn : W.heap[w.heap.size]? = some (.cells #[.int .i64 0, .int .i64 0, .int .i64 0, .int .i64 0] 44 (0, 0)) := by rw [hW]; exact blk_new w _
  have hp := blk_in hb h
  have hbl : b < w.heap.size := (Array.getElem?_eq_some_iff.1 h).1
  have hl : w.heap.size < W.heap.size := (Array.getElem?_eq_some_iff.1 hn).1
  obtain ⟨c0, c1, c2, c3⟩ := blk4 hp
  obtain ⟨d0, d1, d2, d3⟩ := blk4 hn
  have f0 := blk_frozen hn 0
  have f1 := blk_frozen hn 1
  have f2 := blk_frozen hn 2
  have f3 := blk_frozen hn 3
  have HW := Lib.hid hW
  have HB := Lib.hid hb
  rw [hW] at c0 c1 c2 c3 d0 d1 d2 d3 f0 f1 f2 f3 hl
  clear hW hb hn hp h
  go_enter Tryz.func47, Tryz.ntmps47
  go_wp2
  refine bodyPost_ret (v := pv p) (by simp [results, Tryz.results47, go_sem, pv, *]) rfl ⟨rfl, ?_⟩
  exact bel_alloc _ _

theorem new_bad (W H : Nat) (hs : sidesB W H = true) (p : Pa.S44) (hp : pxB p = false) (w : World) :
    Calls Tryz.prog 23 #[.int .i64 W, .int .i64 H, pv p] w fun en w' => en = .returned (.tuple #[.agg #[.int .i64 0, .int .i64 0, .slice none 0 0], .int .i64 2]) ∧ Below w.heap.size w w' := by
  obtain ⟨X, hX⟩ : ∃ X, X = (w.alloc (.cells #[.int .i64 p.f0, .int .i64 p.f1, .int .i64 p.f2, .int .i64 p.f3] 44)).alloc (.cells #[.int .i64 0, .int .i64 0, .slice none 0 0] 31) := ⟨_, rfl⟩
  have hb : Below w.heap.size w X := by rw [hX]; exact (bel_alloc _ _).alloc (by simp) _
  have h5 : X.heap[w.heap.size]? = some (.cells #[.int .i64 p.f0, .int .i64 p.f1, .int .i64 p.f2, .int .i64 p.f3] 44 (0, 0)) := by rw [hX]; exact blk_in (bel_alloc _ _) (blk_new w _)
  have h6 : X.heap[w.heap.size + 1]? = some (.cells #[.int .i64 0, .int .i64 0, .slice none 0 0] 31 (0, 0)) := by rw [hX]; exact blk_at _ _ _ (by simp)
  have sf := sides_f W H
  rw [if_pos hs] at sf
  have HX := Lib.hid hX
  have HB := Lib.hid hb
  have H5 := Lib.hid h5
  have H6 := Lib.hid h6
  have SF := Lib.hid sf
  have hpv : pv p = .agg #[.int .i64 p.f0, .int .i64 p.f1, .int .i64 p.f2, .int .i64 p.f3] := rfl
  rw [hpv]
  clear hX hb h5 h6 sf hpv
  go_enter Tryz.func23, Tryz.ntmps23
  go_wp2_with fail
  rw [← HX.out]
  have K := Pa.raster_sides.calls W H 0 X SF.out
  with_reducible refine K.mono ?_
  clear K
  rintro en w1 ⟨rfl, hd⟩
  have hb := hd.below
  clear hd
  have G5 := Lib.hid (blk_in hb H5.out)
  have G6 := Lib.hid (blk_in hb H6.out)
  have GB := Lib.hid (HB.out.trans (hb.mono HB.out.size))
  clear hb
  obtain ⟨c0, c1, c2, c3⟩ := blk4 G5.out
  go_wp2_with fail
  have K := Pa.pixel_Valid.calls p.f0 p.f1 p.f2 p.f3 false w1 ((pxv_f p).trans (congrArg some hp))
  with_reducible refine K.mono ?_
  clear K
  rintro en w2 ⟨rfl, hb⟩
  have F6 := Lib.hid (blk_in hb G6.out)
  have FB := Lib.hid (GB.out.trans (hb.mono GB.out.size))
  clear hb c0 c1 c2 c3
  obtain ⟨d0, d1, d2, y0, y1, y2⟩ := blk3 F6.out
  have hl4 : w.heap.size + 1 < w2.heap.size := (Array.getElem?_eq_some_iff.1 F6.out).1
  go_wp2
  refine bodyPost_ret (v := .tuple #[.agg #[.int .i64 0, .int .i64 0, .slice none 0 0], .int .i64 2]) (by simp [results, Tryz.results23, go_sem, *]) rfl ⟨rfl, ?_⟩
  refine Below.setCell (Below.setCell (Below.setCell FB.out ?_ _) ?_ _) ?_ _ <;> (simp; try omega)

theorem new_ok (W H : Nat) (hW : W ≤ 256) (hH : H ≤ 256) (hs : sidesB W H = true) (p : Pa.S44) (hp : pxB p = true) (w : World) :
    Calls Tryz.prog 23 #[.int .i64 W, .int .i64 H, pv p] w fun en w' => ∃ v, en = .returned (.tuple #[.agg #[.int .i64 W, .int .i64 H, v], .int .i64 0]) ∧ Kd.R Pa.k44 44 w' w.heap.size (fun _ => True) v (grid W H fun _ _ => p) ∧ Below w.heap.size w w' := by
  obtain ⟨X, hX⟩ : ∃ X, X = (w.alloc (.cells #[.int .i64 p.f0, .int .i64 p.f1, .int .i64 p.f2, .int .i64 p.f3] 44)).alloc (.cells #[.int .i64 0, .int .i64 0, .slice none 0 0] 31) := ⟨_, rfl⟩
  have hb : Below w.heap.size w X := by rw [hX]; exact (bel_alloc _ _).alloc (by simp) _
  have h5 : X.heap[w.heap.size]? = some (.cells #[.int .i64 p.f0, .int .i64 p.f1, .int .i64 p.f2, .int .i64 p.f3] 44 (0, 0)) := by rw [hX]; exact blk_in (bel_alloc _ _) (blk_new w _)
  have h6 : X.heap[w.heap.size + 1]? = some (.cells #[.int .i64 0, .int .i64 0, .slice none 0 0] 31 (0, 0)) := by rw [hX]; exact blk_at _ _ _ (by simp)
  have sf := sides_f W H
  rw [if_pos hs] at sf
  have HX := Lib.hid hX
  have HB := Lib.hid hb
  have H5 := Lib.hid h5
  have H6 := Lib.hid h6
  have SF := Lib.hid sf
  have hpv : pv p = .agg #[.int .i64 p.f0, .int .i64 p.f1, .int .i64 p.f2, .int .i64 p.f3] := rfl
  rw [hpv]
  clear hX hb h5 h6 sf hpv
  have hmf : ∀ (fn : Fn) (first cap : Array Value) (w : World), (Instr.makeFunc fn first cap).run Tryz.prog w = .ok (.func fn first cap) w := fun _ _ _ _ => rfl
  go_enter Tryz.func23, Tryz.ntmps23
  go_wp2_with fail
  rw [← HX.out]
  have K := Pa.raster_sides.calls W H 0 X SF.out
  with_reducible refine K.mono ?_
  clear K
  rintro en w1 ⟨rfl, hd⟩
  have hb := hd.below
  clear hd
  have G5 := Lib.hid (blk_in hb H5.out)
  have G6 := Lib.hid (blk_in hb H6.out)
  have GB := Lib.hid (HB.out.trans (hb.mono HB.out.size))
  clear hb
  obtain ⟨c0, c1, c2, c3⟩ := blk4 G5.out
  go_wp2_with fail
  have K := Pa.pixel_Valid.calls p.f0 p.f1 p.f2 p.f3 true w1 ((pxv_f p).trans (congrArg some hp))
  with_reducible refine K.mono ?_
  clear K
  rintro en w2 ⟨rfl, hb⟩
  have F5 := Lib.hid (blk_in hb G5.out)
  have F6 := Lib.hid (blk_in hb G6.out)
  have FB := Lib.hid (GB.out.trans (hb.mono GB.out.size))
  clear hb c0 c1 c2 c3
  go_wp2_with fail
  have K := fill_47 W H hW hH (.pointer (some ⟨w.heap.size, 0, none⟩)) (fun _ _ => p) w2 (fun x y w' _ _ hb' => cl47 p w.heap.size x y w' (blk_in hb' F5.out))
  with_reducible refine K.mono ?_
  clear K
  rintro en w3 ⟨v, rfl, hv, hb⟩
  obtain ⟨A3, c3, rfl⟩ := Kd.R_slice hv
  have E6 := Lib.hid (blk_in hb F6.out)
  have EB := Lib.hid (FB.out.trans (hb.mono FB.out.size))
  have EV := Lib.hid (Kd.R_lower hv FB.out.size)
  clear hb hv
  obtain ⟨d0, d1, d2, y0, y1, y2⟩ := blk3 E6.out
  have hl4 : w.heap.size + 1 < w3.heap.size := (Array.getElem?_eq_some_iff.1 E6.out).1
  go_wp2
  refine bodyPost_ret (v := .tuple #[.agg #[.int .i64 W, .int .i64 H, .slice A3 (grid W H fun _ _ => p).length c3], .int .i64 0]) (by simp [results, Tryz.results23, go_sem, *]) rfl ⟨_, rfl, set3 EV.out E6.out (by decide) _ _ _, ?_⟩
  refine Below.setCell (Below.setCell (Below.setCell EB.out ?_ _) ?_ _) ?_ _ <;> (simp; try omega)
end Go.Proofs.YtkchkfmggbejfaaGreatDoor
