/- A tile of one document: of the size 20 by 20, with no nodes. -/
import Derived.Test.YtkchkfmggbejfaaGreatDoorNe
namespace Go.Proofs.YtkchkfmggbejfaaGreatDoor
open Go.RowKit Go.Proofs.YtkchkfmggbejfaaGreatDoorW.PrintWords Go.Proofs.YtkchkfmggbejfaaGreatDoorW.PrintMore
set_option linter.unusedSimpArgs false
set_option maxRecDepth 20000

theorem sJ {w : World} {g h : Nat} (hg : w.heap[g]? = some (.cells #[.int .i64 20, .int .i64 20, .int .i64 0, .slice none 0 0, .int .i64 1, .int .i64 0, .int .i64 0, .slice none 0 0, .slice none 0 0, .slice none 0 0] 60 (0, 0))) (hh : w.heap[h]? = some (.cells #[.int .i64 0, .int .i64 0, .int .i64 10, .int .i64 10] 23 (0, 0))) : w.cell? ⟨g, 0, none⟩ = some (.int .i64 20) ∧ w.cell? ⟨g, 1, none⟩ = some (.int .i64 20) ∧ w.cell? ⟨g, 2, none⟩ = some (.int .i64 0) ∧ w.cell? ⟨g, 3, none⟩ = some (.slice none 0 0) ∧ w.cell? ⟨g, 4, none⟩ = some (.int .i64 1) ∧ w.cell? ⟨g, 5, none⟩ = some (.int .i64 0) ∧ w.cell? ⟨g, 6, none⟩ = some (.int .i64 0) ∧ w.cell? ⟨g, 7, none⟩ = some (.slice none 0 0) ∧ w.cell? ⟨g, 8, none⟩ = some (.slice none 0 0) ∧ w.cell? ⟨g, 9, none⟩ = some (.slice none 0 0) ∧ w.cell? ⟨h, 0, none⟩ = some (.int .i64 0) ∧ w.cell? ⟨h, 1, none⟩ = some (.int .i64 0) ∧ w.cell? ⟨h, 2, none⟩ = some (.int .i64 10) ∧ w.cell? ⟨h, 3, none⟩ = some (.int .i64 10) := by
  obtain ⟨d0, d1, d2, d3, d4, d5, d6, d7, d8, d9⟩ := blk10 hg
  obtain ⟨m0, m1, m2, m3⟩ := blk4 hh
  exact ⟨d0, d1, d2, d3, d4, d5, d6, d7, d8, d9, m0, m1, m2, m3⟩
theorem sK {w : World} {g h : Nat} (o : Obj) (hg : w.heap[g]? = some (.cells #[.int .i64 20, .int .i64 20, .int .i64 0, .slice none 0 0, .int .i64 1, .int .i64 0, .int .i64 0, .slice none 0 0, .slice none 0 0, .slice none 0 0] 60 (0, 0))) (hh : w.heap[h]? = some (.cells #[.int .i64 0, .int .i64 0, .int .i64 10, .int .i64 10] 23 (0, 0))) : (w.alloc o).cell? ⟨g, 0, none⟩ = some (.int .i64 20) ∧ (w.alloc o).cell? ⟨g, 1, none⟩ = some (.int .i64 20) ∧ (w.alloc o).cell? ⟨g, 2, none⟩ = some (.int .i64 0) ∧ (w.alloc o).cell? ⟨g, 3, none⟩ = some (.slice none 0 0) ∧ (w.alloc o).cell? ⟨g, 4, none⟩ = some (.int .i64 1) ∧ (w.alloc o).cell? ⟨g, 5, none⟩ = some (.int .i64 0) ∧ (w.alloc o).cell? ⟨g, 6, none⟩ = some (.int .i64 0) ∧ (w.alloc o).cell? ⟨g, 7, none⟩ = some (.slice none 0 0) ∧ (w.alloc o).cell? ⟨g, 8, none⟩ = some (.slice none 0 0) ∧ (w.alloc o).cell? ⟨g, 9, none⟩ = some (.slice none 0 0) ∧ (w.alloc o).cell? ⟨h, 0, none⟩ = some (.int .i64 0) ∧ (w.alloc o).cell? ⟨h, 1, none⟩ = some (.int .i64 0) ∧ (w.alloc o).cell? ⟨h, 2, none⟩ = some (.int .i64 10) ∧ (w.alloc o).cell? ⟨h, 3, none⟩ = some (.int .i64 10) := sJ (blk_in (bel_alloc _ o) hg) (blk_in (bel_alloc _ o) hh)
theorem sS {w : World} {g h t : Nat} (x y z : Value) (h1 : g ≠ t) (h2 : h ≠ t) (hg : w.heap[g]? = some (.cells #[.int .i64 20, .int .i64 20, .int .i64 0, .slice none 0 0, .int .i64 1, .int .i64 0, .int .i64 0, .slice none 0 0, .slice none 0 0, .slice none 0 0] 60 (0, 0))) (hh : w.heap[h]? = some (.cells #[.int .i64 0, .int .i64 0, .int .i64 10, .int .i64 10] 23 (0, 0))) : (((w.setCell ⟨t, 0, none⟩ x).setCell ⟨t, 1, none⟩ y).setCell ⟨t, 2, none⟩ z).cell? ⟨g, 0, none⟩ = some (.int .i64 20) ∧ (((w.setCell ⟨t, 0, none⟩ x).setCell ⟨t, 1, none⟩ y).setCell ⟨t, 2, none⟩ z).cell? ⟨g, 1, none⟩ = some (.int .i64 20) ∧ (((w.setCell ⟨t, 0, none⟩ x).setCell ⟨t, 1, none⟩ y).setCell ⟨t, 2, none⟩ z).cell? ⟨g, 2, none⟩ = some (.int .i64 0) ∧ (((w.setCell ⟨t, 0, none⟩ x).setCell ⟨t, 1, none⟩ y).setCell ⟨t, 2, none⟩ z).cell? ⟨g, 3, none⟩ = some (.slice none 0 0) ∧ (((w.setCell ⟨t, 0, none⟩ x).setCell ⟨t, 1, none⟩ y).setCell ⟨t, 2, none⟩ z).cell? ⟨g, 4, none⟩ = some (.int .i64 1) ∧ (((w.setCell ⟨t, 0, none⟩ x).setCell ⟨t, 1, none⟩ y).setCell ⟨t, 2, none⟩ z).cell? ⟨g, 5, none⟩ = some (.int .i64 0) ∧ (((w.setCell ⟨t, 0, none⟩ x).setCell ⟨t, 1, none⟩ y).setCell ⟨t, 2, none⟩ z).cell? ⟨g, 6, none⟩ = some (.int .i64 0) ∧ (((w.setCell ⟨t, 0, none⟩ x).setCell ⟨t, 1, none⟩ y).setCell ⟨t, 2, none⟩ z).cell? ⟨g, 7, none⟩ = some (.slice none 0 0) ∧ (((w.setCell ⟨t, 0, none⟩ x).setCell ⟨t, 1, none⟩ y).setCell ⟨t, 2, none⟩ z).cell? ⟨g, 8, none⟩ = some (.slice none 0 0) ∧ (((w.setCell ⟨t, 0, none⟩ x).setCell ⟨t, 1, none⟩ y).setCell ⟨t, 2, none⟩ z).cell? ⟨g, 9, none⟩ = some (.slice none 0 0) ∧ (((w.setCell ⟨t, 0, none⟩ x).setCell ⟨t, 1, none⟩ y).setCell ⟨t, 2, none⟩ z).cell? ⟨h, 0, none⟩ = some (.int .i64 0) ∧ (((w.setCell ⟨t, 0, none⟩ x).setCell ⟨t, 1, none⟩ y).setCell ⟨t, 2, none⟩ z).cell? ⟨h, 1, none⟩ = some (.int .i64 0) ∧ (((w.setCell ⟨t, 0, none⟩ x).setCell ⟨t, 1, none⟩ y).setCell ⟨t, 2, none⟩ z).cell? ⟨h, 2, none⟩ = some (.int .i64 10) ∧ (((w.setCell ⟨t, 0, none⟩ x).setCell ⟨t, 1, none⟩ y).setCell ⟨t, 2, none⟩ z).cell? ⟨h, 3, none⟩ = some (.int .i64 10) :=
  sJ (blk_far (blk_far (blk_far hg h1 _) h1 _) h1 _) (blk_far (blk_far (blk_far hh h2 _) h2 _) h2 _)

structure Fin (WF w : World) (j t : Nat) (A : Option Addr) (c : Nat) : Prop where
  hT : WF.heap[t]? = some (.cells #[.int .i64 20, .int .i64 20, .slice A 400 c] 31 (0, 0))
  hI : WF.heap[j]? = some (.cells #[.int .i64 0, .int .i64 0, .slice none 0 0] 31 (0, 0))
  hC : Kd.C Pa.k44 WF A (List.replicate 400 Pa.z44).length (List.replicate 400 Pa.z44) ∧ 400 ≤ c
  hb : Below w.heap.size w WF
theorem R_C {W : World} {base : Nat} {A : Option Addr} {c : Nat} (hv : Kd.R Pa.k44 44 W base (fun _ => True) (.slice A (List.replicate 400 Pa.z44).length c) (List.replicate 400 Pa.z44)) : Kd.C Pa.k44 W A (List.replicate 400 Pa.z44).length (List.replicate 400 Pa.z44) ∧ 400 ≤ c := by
  obtain ⟨A', c', he, hc, h⟩ := Kd.R_reads hv
  simp only [Value.slice.injEq, true_and] at he
  obtain ⟨rfl, rfl⟩ := he
  rw [List.length_replicate] at hc
  exact ⟨h, hc⟩
theorem finA {w w9 WF : World} {j t base : Nat} {A : Option Addr} {c : Nat} (hW : WF = w9.alloc (.cells #[.int .i64 20, .int .i64 20, .slice A 400 c] 31)) (ht : t = w9.heap.size) (hv : Kd.R Pa.k44 44 w9 base (fun _ => True) (.slice A (List.replicate 400 Pa.z44).length c) (List.replicate 400 Pa.z44)) (hi : w9.heap[j]? = some (.cells #[.int .i64 0, .int .i64 0, .slice none 0 0] 31 (0, 0))) (hb : Below w.heap.size w w9) : Fin WF w j t A c := by
  subst hW ht
  exact ⟨blk_new _ _, blk_in (bel_alloc _ _) hi, R_C (Kd.R_alloc hv _), hb.alloc hb.size _⟩
theorem finB {w w9 WF : World} {j t base : Nat} {A : Option Addr} {c : Nat} (hW : WF = ((w9.setCell ⟨t, 0, none⟩ (.int .i64 20)).setCell ⟨t, 1, none⟩ (.int .i64 20)).setCell ⟨t, 2, none⟩ (.slice A 400 c)) (ht : w9.heap[t]? = some (.cells #[.int .i64 0, .int .i64 0, .slice none 0 0] 31 (0, 0))) (hj : j ≠ t) (hwt : w.heap.size ≤ t) (hv : Kd.R Pa.k44 44 w9 base (fun _ => True) (.slice A (List.replicate 400 Pa.z44).length c) (List.replicate 400 Pa.z44)) (hi : w9.heap[j]? = some (.cells #[.int .i64 0, .int .i64 0, .slice none 0 0] 31 (0, 0))) (hb : Below w.heap.size w w9) : Fin WF w j t A c := by
  subst hW
  exact ⟨blk_set (blk_set (blk_set ht 0 _) 1 _) 2 _, blk_far (blk_far (blk_far hi hj _) hj _) hj _, R_C (set3 hv ht (by decide) _ _ _), Below.setCell (Below.setCell (Below.setCell hb hwt _) hwt _) hwt _⟩
theorem red_doc (A : Option Addr) (c : Nat) (W : World) (h : Kd.C Pa.k44 W A (List.replicate 400 Pa.z44).length (List.replicate 400 Pa.z44) ∧ 400 ≤ c) : Calls Tryz.prog 17 #[.agg #[.int .i64 20, .int .i64 20, .slice A 400 c], .int .i64 1] W fun en w' => ∃ v, en = .returned (.tuple #[.agg #[.int .i64 10, .int .i64 10, v], .int .i64 0]) ∧ Kd.R Pa.k44 44 w' W.heap.size (fun _ => True) v (List.replicate 100 Pa.z44) ∧ Below W.heap.size W w' := by
  have K := reduce_ok 500 20 20 A c (List.replicate 400 Pa.z44) 1 10 10 (List.replicate 100 Pa.z44) W h.1 (by rw [List.length_replicate]; exact h.2) (by kernel_rfl) (by rfl) (by rw [List.length_replicate]; omega) (by omega) (by kernel_rfl)
  rw [List.length_replicate] at K
  exact K

set_option maxHeartbeats 4000000 in
theorem tile_out (w : World) : Calls Tryz.prog 36 #[docv, .int .i64 1, .int .i64 1, .int .i64 0] w fun e w' => e = .returned (.tuple #[.agg #[.int .i64 0, .int .i64 0, .slice none 0 0], .int .i64 2]) ∧ Below w.heap.size w w' := by
  obtain ⟨W, hW⟩ : ∃ W, W = (w.alloc (.cells #[.int .i64 20, .int .i64 20, .int .i64 0, .slice none 0 0, .int .i64 1, .int .i64 0, .int .i64 0, .slice none 0 0, .slice none 0 0, .slice none 0 0] 60)).alloc (.cells #[.int .i64 0, .int .i64 0, .slice none 0 0] 31) := ⟨_, rfl⟩
  have hbW : Below w.heap.size w W := by rw [hW]; exact (bel_alloc _ _).alloc (by simp) _
  have hd : W.heap[w.heap.size]? = some (.cells #[.int .i64 20, .int .i64 20, .int .i64 0, .slice none 0 0, .int .i64 1, .int .i64 0, .int .i64 0, .slice none 0 0, .slice none 0 0, .slice none 0 0] 60 (0, 0)) := by rw [hW]; exact blk_in (bel_alloc _ _) (blk_new w _)
  have hi : W.heap[w.heap.size + 1]? = some (.cells #[.int .i64 0, .int .i64 0, .slice none 0 0] 31 (0, 0)) := by rw [hW]; exact blk_at _ _ _ (by simp)
  have HW := Lib.hid hW
  have HbW := Lib.hid hbW
  have Hd := Lib.hid hd
  have Hi := Lib.hid hi
  obtain ⟨d0, d1, d2, d3, d4, d5, d6, d7, d8, d9⟩ := blk10 hd
  clear hW hbW hd hi
  unfold docv
  go_enter Tryz.func36, Tryz.ntmps36
  go_wp2_with fail
  rw [← HW.out]
  have K := check_doc W
  unfold docv at K
  with_reducible refine K.mono ?_
  clear K
  rintro en w1 ⟨rfl, hb⟩

  have Hd1 := Lib.hid (blk_in hb Hd.out)
  have Hi1 := Lib.hid (blk_in hb Hi.out)
  have Hb1 := Lib.hid (HbW.out.trans (hb.mono HbW.out.size))
  clear hb d0 d1 d2 d3 d4 d5 d6 d7 d8 d9
  obtain ⟨d0, d1, d2, d3, d4, d5, d6, d7, d8, d9⟩ := blk10 Hd1.out
  go_wp2_with fail

  have K := Pa.pyramid_isLevel.calls 1 true w1 (by rfl)

  with_reducible refine K.mono ?_
  clear K
  rintro en w2 ⟨rfl, hb⟩
  replace hb := hb.below
  have Hd2 := Lib.hid (blk_in hb Hd1.out)
  have Hi2 := Lib.hid (blk_in hb Hi1.out)
  have Hb2 := Lib.hid (Hb1.out.trans (hb.mono Hb1.out.size))
  clear hb d0 d1 d2 d3 d4 d5 d6 d7 d8 d9
  obtain ⟨d0, d1, d2, d3, d4, d5, d6, d7, d8, d9⟩ := blk10 Hd2.out
  go_wp2_with fail

  have K := Pa.pyramid_Size.calls 6 20 20 1 10 10 w2 (by kernel_rfl)

  with_reducible refine K.mono ?_
  clear K
  rintro en w3 ⟨rfl, hb⟩

  have Hd3 := Lib.hid (blk_in hb Hd2.out)
  have Hi3 := Lib.hid (blk_in hb Hi2.out)
  have Hb3 := Lib.hid (Hb2.out.trans (hb.mono Hb2.out.size))
  clear hb d0 d1 d2 d3 d4 d5 d6 d7 d8 d9
  obtain ⟨d0, d1, d2, d3, d4, d5, d6, d7, d8, d9⟩ := blk10 Hd3.out
  go_wp2_with fail

  have K := Pa.rect_OfTile.calls 1 0 16 0 16 16 w3 (by kernel_rfl)

  with_reducible refine K.mono ?_
  clear K
  rintro en w4 ⟨rfl, hb⟩

  have Hd4 := Lib.hid (blk_in hb Hd3.out)
  have Hi4 := Lib.hid (blk_in hb Hi3.out)
  have Hb4 := Lib.hid (Hb3.out.trans (hb.mono Hb3.out.size))
  clear hb d0 d1 d2 d3 d4 d5 d6 d7 d8 d9
  obtain ⟨d0, d1, d2, d3, d4, d5, d6, d7, d8, d9⟩ := blk10 Hd4.out
  go_wp2_with fail

  have K := Pa.rect_Meet.calls 16 0 16 16 0 0 10 10 0 0 0 0 w4 (by kernel_rfl)

  with_reducible refine K.mono ?_
  clear K
  rintro en w5 ⟨rfl, hb⟩

  have Hd5 := Lib.hid (blk_in hb Hd4.out)
  have Hi5 := Lib.hid (blk_in hb Hi4.out)
  have Hb5 := Lib.hid (Hb4.out.trans (hb.mono Hb4.out.size))
  clear hb d0 d1 d2 d3 d4 d5 d6 d7 d8 d9
  obtain ⟨d0, d1, d2, d3, d4, d5, d6, d7, d8, d9⟩ := blk10 Hd5.out
  go_wp2_with fail
  obtain ⟨w6, hw6⟩ : ∃ w6, w6 = w5.alloc (.cells #[.int .i64 0, .int .i64 0, .int .i64 0, .int .i64 0] 23) := ⟨_, rfl⟩
  have hb : Below w5.heap.size w5 w6 := by rw [hw6]; exact bel_alloc _ _
  rw [← hw6]
  have Hi6 := Lib.hid (blk_in hb Hi5.out)
  have Hb6 := Lib.hid (Hb5.out.trans (hb.mono Hb5.out.size))
  clear hb hw6
  have K := Pa.rect_Empty.calls 0 0 0 0 true w6 (by kernel_rfl)
  with_reducible refine K.mono ?_
  clear K
  rintro en w7 ⟨rfl, hb⟩
  have Hi7 := Lib.hid (blk_in hb Hi6.out)
  have Hb7 := Lib.hid (Hb6.out.trans (hb.mono Hb6.out.size))
  obtain ⟨i0, i1, i2, y0, y1, y2⟩ := blk3 Hi7.out
  have hl7 : w.heap.size + 1 < w7.heap.size := (Array.getElem?_eq_some_iff.1 Hi7.out).1
  clear hb d0 d1 d2 d3 d4 d5 d6 d7 d8 d9
  go_wp2
  refine bodyPost_ret (v := .tuple #[.agg #[.int .i64 0, .int .i64 0, .slice none 0 0], .int .i64 2]) (by simp [results, Tryz.results36, go_sem, *]) rfl ⟨rfl, ?_⟩
  have hb := Hb7.out
  refine Below.setCell (Below.setCell (Below.setCell hb ?_ _) ?_ _) ?_ _ <;> (simp; try omega)

set_option maxHeartbeats 4000000 in
theorem tile_in (w : World) : Calls Tryz.prog 36 #[docv, .int .i64 1, .int .i64 0, .int .i64 0] w fun e w' => ∃ (A : Option Addr) (n c : Nat), e = .returned (.tuple #[.agg #[.int .i64 10, .int .i64 10, .slice A n c], .int .i64 0]) ∧ Below w.heap.size w w' := by
  obtain ⟨W, hW⟩ : ∃ W, W = (w.alloc (.cells #[.int .i64 20, .int .i64 20, .int .i64 0, .slice none 0 0, .int .i64 1, .int .i64 0, .int .i64 0, .slice none 0 0, .slice none 0 0, .slice none 0 0] 60)).alloc (.cells #[.int .i64 0, .int .i64 0, .slice none 0 0] 31) := ⟨_, rfl⟩
  have hbW : Below w.heap.size w W := by rw [hW]; exact (bel_alloc _ _).alloc (by simp) _
  have hd : W.heap[w.heap.size]? = some (.cells #[.int .i64 20, .int .i64 20, .int .i64 0, .slice none 0 0, .int .i64 1, .int .i64 0, .int .i64 0, .slice none 0 0, .slice none 0 0, .slice none 0 0] 60 (0, 0)) := by rw [hW]; exact blk_in (bel_alloc _ _) (blk_new w _)
  have hi : W.heap[w.heap.size + 1]? = some (.cells #[.int .i64 0, .int .i64 0, .slice none 0 0] 31 (0, 0)) := by rw [hW]; exact blk_at _ _ _ (by simp)
  have HW := Lib.hid hW
  have HbW := Lib.hid hbW
  have Hd := Lib.hid hd
  have Hi := Lib.hid hi
  obtain ⟨d0, d1, d2, d3, d4, d5, d6, d7, d8, d9⟩ := blk10 hd
  clear hW hbW hd hi
  unfold docv
  go_enter Tryz.func36, Tryz.ntmps36
  go_wp2_with fail
  rw [← HW.out]
  have K := check_doc W
  unfold docv at K
  with_reducible refine K.mono ?_
  clear K
  rintro en w1 ⟨rfl, hb⟩

  have Hd1 := Lib.hid (blk_in hb Hd.out)
  have Hi1 := Lib.hid (blk_in hb Hi.out)
  have Hb1 := Lib.hid (HbW.out.trans (hb.mono HbW.out.size))
  clear hb d0 d1 d2 d3 d4 d5 d6 d7 d8 d9
  obtain ⟨d0, d1, d2, d3, d4, d5, d6, d7, d8, d9⟩ := blk10 Hd1.out
  go_wp2_with fail

  have K := Pa.pyramid_isLevel.calls 1 true w1 (by rfl)

  with_reducible refine K.mono ?_
  clear K
  rintro en w2 ⟨rfl, hb⟩
  replace hb := hb.below
  have Hd2 := Lib.hid (blk_in hb Hd1.out)
  have Hi2 := Lib.hid (blk_in hb Hi1.out)
  have Hb2 := Lib.hid (Hb1.out.trans (hb.mono Hb1.out.size))
  clear hb d0 d1 d2 d3 d4 d5 d6 d7 d8 d9
  obtain ⟨d0, d1, d2, d3, d4, d5, d6, d7, d8, d9⟩ := blk10 Hd2.out
  go_wp2_with fail

  have K := Pa.pyramid_Size.calls 6 20 20 1 10 10 w2 (by kernel_rfl)

  with_reducible refine K.mono ?_
  clear K
  rintro en w3 ⟨rfl, hb⟩

  have Hd3 := Lib.hid (blk_in hb Hd2.out)
  have Hi3 := Lib.hid (blk_in hb Hi2.out)
  have Hb3 := Lib.hid (Hb2.out.trans (hb.mono Hb2.out.size))
  clear hb d0 d1 d2 d3 d4 d5 d6 d7 d8 d9
  obtain ⟨d0, d1, d2, d3, d4, d5, d6, d7, d8, d9⟩ := blk10 Hd3.out
  go_wp2_with fail

  have K := Pa.rect_OfTile.calls 0 0 0 0 16 16 w3 (by kernel_rfl)

  with_reducible refine K.mono ?_
  clear K
  rintro en w4 ⟨rfl, hb⟩

  have Hd4 := Lib.hid (blk_in hb Hd3.out)
  have Hi4 := Lib.hid (blk_in hb Hi3.out)
  have Hb4 := Lib.hid (Hb3.out.trans (hb.mono Hb3.out.size))
  clear hb d0 d1 d2 d3 d4 d5 d6 d7 d8 d9
  obtain ⟨d0, d1, d2, d3, d4, d5, d6, d7, d8, d9⟩ := blk10 Hd4.out
  go_wp2_with fail

  have K := Pa.rect_Meet.calls 0 0 16 16 0 0 10 10 0 0 10 10 w4 (by kernel_rfl)

  with_reducible refine K.mono ?_
  clear K
  rintro en w5 ⟨rfl, hb⟩

  have Hd5 := Lib.hid (blk_in hb Hd4.out)
  have Hi5 := Lib.hid (blk_in hb Hi4.out)
  have Hb5 := Lib.hid (Hb4.out.trans (hb.mono Hb4.out.size))
  clear hb d0 d1 d2 d3 d4 d5 d6 d7 d8 d9
  obtain ⟨d0, d1, d2, d3, d4, d5, d6, d7, d8, d9⟩ := blk10 Hd5.out
  go_wp2_with fail
  obtain ⟨w6, hw6⟩ : ∃ w6, w6 = w5.alloc (.cells #[.int .i64 0, .int .i64 0, .int .i64 10, .int .i64 10] 23) := ⟨_, rfl⟩
  have hb : Below w5.heap.size w5 w6 := by rw [hw6]; exact bel_alloc _ _
  have Hm6 := Lib.hid (show w6.heap[w5.heap.size]? = some (.cells #[.int .i64 0, .int .i64 0, .int .i64 10, .int .i64 10] 23 (0, 0)) by rw [hw6]; exact blk_new _ _)
  rw [← hw6]
  have Hd6 := Lib.hid (blk_in hb Hd5.out)
  have Hi6 := Lib.hid (blk_in hb Hi5.out)
  have Hb6 := Lib.hid (Hb5.out.trans (hb.mono Hb5.out.size))
  clear hb hw6
  have K := Pa.rect_Empty.calls 0 0 10 10 false w6 (by kernel_rfl)
  with_reducible refine K.mono ?_
  clear K
  rintro en w7 ⟨rfl, hb⟩
  have Hm7 := Lib.hid (blk_in hb Hm6.out)
  have Hd7 := Lib.hid (blk_in hb Hd6.out)
  have Hi7 := Lib.hid (blk_in hb Hi6.out)
  have Hb7 := Lib.hid (Hb6.out.trans (hb.mono Hb6.out.size))
  clear hb d0 d1 d2 d3 d4 d5 d6 d7 d8 d9
  obtain ⟨d0, d1, d2, d3, d4, d5, d6, d7, d8, d9⟩ := blk10 Hd7.out
  obtain ⟨m0, m1, m2, m3⟩ := blk4 Hm7.out
  go_wp2_with fail
  have hq5 : w5.heap.size < w7.heap.size := (Array.getElem?_eq_some_iff.1 Hm7.out).1
  have hq1 : w.heap.size + 1 < w7.heap.size := (Array.getElem?_eq_some_iff.1 Hi7.out).1
  have hq0 : w.heap.size < w7.heap.size := (Array.getElem?_eq_some_iff.1 Hd7.out).1
  have hn : needs 20 20 1 0 0 10 10 = (0, 0, 20, 20) := by kernel_rfl
  go_region_held3 (fun w' => w'.cell? ⟨w.heap.size, 0, none⟩ = some (.int .i64 20) ∧ w'.cell? ⟨w.heap.size, 1, none⟩ = some (.int .i64 20) ∧ w'.cell? ⟨w.heap.size, 2, none⟩ = some (.int .i64 0) ∧ w'.cell? ⟨w.heap.size, 3, none⟩ = some (.slice none 0 0) ∧ w'.cell? ⟨w.heap.size, 4, none⟩ = some (.int .i64 1) ∧ w'.cell? ⟨w.heap.size, 5, none⟩ = some (.int .i64 0) ∧ w'.cell? ⟨w.heap.size, 6, none⟩ = some (.int .i64 0) ∧ w'.cell? ⟨w.heap.size, 7, none⟩ = some (.slice none 0 0) ∧ w'.cell? ⟨w.heap.size, 8, none⟩ = some (.slice none 0 0) ∧ w'.cell? ⟨w.heap.size, 9, none⟩ = some (.slice none 0 0) ∧ w'.cell? ⟨w5.heap.size, 0, none⟩ = some (.int .i64 0) ∧ w'.cell? ⟨w5.heap.size, 1, none⟩ = some (.int .i64 0) ∧ w'.cell? ⟨w5.heap.size, 2, none⟩ = some (.int .i64 10) ∧ w'.cell? ⟨w5.heap.size, 3, none⟩ = some (.int .i64 10))
    (first
      | go_keep
      | exact Hj8.out
      | exact Hj9.out
      | exact Hk8.out _
      | exact Hk9.out _
      | exact Hs9.out _ _ _)
    (first
      | (go_at_call 12
         have K := needs_any 20 20 1 0 0 10 10 (w7.drew)
         rw [hn] at K
         unfold rv at K
         with_reducible refine K.mono ?_
         clear K
         rintro e w8 ⟨rfl, hb⟩
         have hb' : Below w7.heap.size w7 w8 := (Below.drew (Below.refl _ _)).trans hb
         have Hd8 := Lib.hid (blk_in hb' Hd7.out)
         have Hm8 := Lib.hid (blk_in hb' Hm7.out)
         have Hi8 := Lib.hid (blk_in hb' Hi7.out)
         skip
         have Hb8 := Lib.hid (Hb7.out.trans (hb'.mono Hb7.out.size))
         have hz8 := hb'.size
         obtain ⟨d0, d1, d2, d3, d4, d5, d6, d7, d8, d9⟩ := blk10 Hd8.out
         obtain ⟨m0, m1, m2, m3⟩ := blk4 Hm8.out
         have Hk8 := Lib.hid (fun o => sK (w := w8) (g := w.heap.size) (h := w5.heap.size) o Hd8.out Hm8.out)
         have Hj8 := Lib.hid (sJ Hd8.out Hm8.out)
         clear hb hb' d0 d1 d2 d3 d4 d5 d6 d7 d8 d9 m0 m1 m2 m3)
      | (go_at_call 12
         have K := needs_any 20 20 1 0 0 10 10 ((w7.alloc (.cells #[.int .i64 0, .int .i64 0, .slice none 0 0] 31)).drew)
         rw [hn] at K
         unfold rv at K
         with_reducible refine K.mono ?_
         clear K
         rintro e w8 ⟨rfl, hb⟩
         have hb' : Below w7.heap.size w7 w8 := (Below.drew (bel_alloc _ _)).trans (hb.mono (by simp))
         have Hd8 := Lib.hid (blk_in hb' Hd7.out)
         have Hm8 := Lib.hid (blk_in hb' Hm7.out)
         have Hi8 := Lib.hid (blk_in hb' Hi7.out)
         have Ht8 := Lib.hid (show w8.heap[w7.heap.size]? = some (.cells #[.int .i64 0, .int .i64 0, .slice none 0 0] 31 (0, 0)) from blk_in (w := (w7.alloc (.cells #[.int .i64 0, .int .i64 0, .slice none 0 0] 31)).drew) hb (blk_new w7 (.cells #[.int .i64 0, .int .i64 0, .slice none 0 0] 31)))
         have Hb8 := Lib.hid (Hb7.out.trans (hb'.mono Hb7.out.size))
         have hz8 := hb'.size
         obtain ⟨d0, d1, d2, d3, d4, d5, d6, d7, d8, d9⟩ := blk10 Hd8.out
         obtain ⟨m0, m1, m2, m3⟩ := blk4 Hm8.out
         have Hk8 := Lib.hid (fun o => sK (w := w8) (g := w.heap.size) (h := w5.heap.size) o Hd8.out Hm8.out)
         have Hj8 := Lib.hid (sJ Hd8.out Hm8.out)
         clear hb hb' d0 d1 d2 d3 d4 d5 d6 d7 d8 d9 m0 m1 m2 m3)
      | (go_at_call 56
         have K := region_doc (w8)
         unfold docv at K
         with_reducible refine K.mono ?_
         clear K
         rintro e w9 ⟨v9, rfl, hv9, hb⟩
         have hb' : Below w8.heap.size w8 w9 := hb
         obtain ⟨A9, c9, rfl⟩ := Kd.R_slice hv9
         have Hv9 := Lib.hid hv9
         have Hd9 := Lib.hid (blk_in hb' Hd8.out)
         have Hm9 := Lib.hid (blk_in hb' Hm8.out)
         have Hi9 := Lib.hid (blk_in hb' Hi8.out)
         try (have Ht9 := Lib.hid (blk_in hb Ht8.out); obtain ⟨t0, t1, t2, u0, u1, u2⟩ := blk3 Ht9.out; have ht9 := (Array.getElem?_eq_some_iff.1 Ht9.out).1; have Hs9 := Lib.hid (fun x y z => sS (w := w9) (g := w.heap.size) (h := w5.heap.size) (t := w7.heap.size) x y z (by omega) (by omega) Hd9.out Hm9.out))
         have Hb9 := Lib.hid (Hb8.out.trans (hb'.mono Hb8.out.size))
         have hz9 := hb'.size
         have Hk9 := Lib.hid (fun o => sK (w := w9) (g := w.heap.size) (h := w5.heap.size) o Hd9.out Hm9.out)
         have Hj9 := Lib.hid (sJ Hd9.out Hm9.out)
         clear hb hb' hv9)
      | (go_at_call 56
         have K := region_doc (w8.alloc (.cells #[.int .i64 0, .int .i64 0, .slice none 0 0] 31))
         unfold docv at K
         with_reducible refine K.mono ?_
         clear K
         rintro e w9 ⟨v9, rfl, hv9, hb⟩
         have hb' : Below w8.heap.size w8 w9 := (bel_alloc _ _).trans (hb.mono (by simp))
         obtain ⟨A9, c9, rfl⟩ := Kd.R_slice hv9
         have Hv9 := Lib.hid hv9
         have Hd9 := Lib.hid (blk_in hb' Hd8.out)
         have Hm9 := Lib.hid (blk_in hb' Hm8.out)
         have Hi9 := Lib.hid (blk_in hb' Hi8.out)
         have Ht9 := Lib.hid (blk_in hb (blk_new w8 (.cells #[.int .i64 0, .int .i64 0, .slice none 0 0] 31))); obtain ⟨t0, t1, t2, u0, u1, u2⟩ := blk3 Ht9.out; have ht9 := (Array.getElem?_eq_some_iff.1 Ht9.out).1; have Hs9 := Lib.hid (fun x y z => sS (w := w9) (g := w.heap.size) (h := w5.heap.size) (t := w8.heap.size) x y z (by omega) (by omega) Hd9.out Hm9.out)
         have Hb9 := Lib.hid (Hb8.out.trans (hb'.mono Hb8.out.size))
         have hz9 := hb'.size
         have Hk9 := Lib.hid (fun o => sK (w := w9) (g := w.heap.size) (h := w5.heap.size) o Hd9.out Hm9.out)
         have Hj9 := Lib.hid (sJ Hd9.out Hm9.out)
         clear hb hb' hv9))
  all_goals
    first
      | (obtain ⟨WF, hWF⟩ : ∃ WF, WF = w9.alloc (.cells #[.int .i64 20, .int .i64 20, .slice A9 400 c9] 31) := ⟨_, rfl⟩
         rw [← hWF]
         have F := finA (t := w9.heap.size) hWF rfl Hv9.out Hi9.out Hb9.out
         clear hWF)
      | (obtain ⟨WF, hWF⟩ : ∃ WF, WF = ((w9.setCell ⟨w7.heap.size, 0, none⟩ (.int .i64 20)).setCell ⟨w7.heap.size, 1, none⟩ (.int .i64 20)).setCell ⟨w7.heap.size, 2, none⟩ (.slice A9 400 c9) := ⟨_, rfl⟩
         rw [← hWF]
         have F := finB (t := w7.heap.size) hWF Ht9.out (by omega) (by omega) Hv9.out Hi9.out Hb9.out
         clear hWF)
      | (obtain ⟨WF, hWF⟩ : ∃ WF, WF = ((w9.setCell ⟨w8.heap.size, 0, none⟩ (.int .i64 20)).setCell ⟨w8.heap.size, 1, none⟩ (.int .i64 20)).setCell ⟨w8.heap.size, 2, none⟩ (.slice A9 400 c9) := ⟨_, rfl⟩
         rw [← hWF]
         have F := finB (t := w8.heap.size) hWF Ht9.out (by omega) (by omega) Hv9.out Hi9.out Hb9.out
         clear hWF)
    obtain ⟨FT, FI, FC, FB⟩ := F
    obtain ⟨e0, e1, e2, _⟩ := blk3 FT
    have GI := Lib.hid FI
    have GC := Lib.hid FC
    have GB := Lib.hid FB
    clear FT FI FC FB
    go_wp2_with fail
    have K := red_doc A9 c9 WF GC.out
    with_reducible refine K.mono ?_
    clear K
    rintro e x1 ⟨v1, rfl, hv1, hb⟩
    obtain ⟨A1, c1, rfl⟩ := Kd.R_slice hv1
    have GI1 := Lib.hid (blk_in hb GI.out)
    have GB1 := Lib.hid (GB.out.trans (hb.mono GB.out.size))
    obtain ⟨i0, i1, i2, y0, y1, y2⟩ := blk3 GI1.out
    have hl1 : w.heap.size + 1 < x1.heap.size := (Array.getElem?_eq_some_iff.1 GI1.out).1
    clear hb hv1 e0 e1 e2
    go_wp2
    refine bodyPost_ret (v := .tuple #[.agg #[.int .i64 10, .int .i64 10, .slice A1 (List.replicate 100 Pa.z44).length c1], .int .i64 0]) (by simp [results, Tryz.results36, go_sem, *]) rfl ⟨_, _, _, rfl, ?_⟩
    have hb := GB1.out
    refine Below.setCell (Below.setCell (Below.setCell hb ?_ _) ?_ _) ?_ _ <;> (simp; try omega)
end Go.Proofs.YtkchkfmggbejfaaGreatDoor
