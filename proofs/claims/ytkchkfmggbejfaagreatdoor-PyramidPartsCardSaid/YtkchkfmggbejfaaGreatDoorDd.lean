/- The program's check and the region of one document: of the size 20 by 20, with no nodes. -/
import Derived.Test.YtkchkfmggbejfaaGreatDoorDc
import Derived.Lib.Hide
namespace Go.Proofs.YtkchkfmggbejfaaGreatDoor
open Go.RowKit Go.Proofs.YtkchkfmggbejfaaGreatDoorW.PrintWords
set_option linter.unusedSimpArgs false
set_option maxRecDepth 20000

theorem blk_in {w w' : World} {b : Nat} {o : Obj} (hb : Below w.heap.size w w') (h : w.heap[b]? = some o) : w'.heap[b]? = some o := (hb.block b (Array.getElem?_eq_some_iff.1 h).1).trans h
theorem blk10 {w : World} {b : Nat} {a0 a1 a2 a3 a4 a5 a6 a7 a8 a9 : Value} {t : TypeId} (h : w.heap[b]? = some (.cells #[a0, a1, a2, a3, a4, a5, a6, a7, a8, a9] t (0, 0))) :
    w.cell? ⟨b, 0, none⟩ = some a0 ∧ w.cell? ⟨b, 1, none⟩ = some a1 ∧ w.cell? ⟨b, 2, none⟩ = some a2 ∧ w.cell? ⟨b, 3, none⟩ = some a3 ∧ w.cell? ⟨b, 4, none⟩ = some a4 ∧ w.cell? ⟨b, 5, none⟩ = some a5 ∧ w.cell? ⟨b, 6, none⟩ = some a6 ∧ w.cell? ⟨b, 7, none⟩ = some a7 ∧ w.cell? ⟨b, 8, none⟩ = some a8 ∧ w.cell? ⟨b, 9, none⟩ = some a9 :=
  ⟨by simp [World.cell?, h], by simp [World.cell?, h], by simp [World.cell?, h], by simp [World.cell?, h], by simp [World.cell?, h], by simp [World.cell?, h], by simp [World.cell?, h], by simp [World.cell?, h], by simp [World.cell?, h], by simp [World.cell?, h]⟩
theorem blk4 {w : World} {b : Nat} {a0 a1 a2 a3 : Value} {t : TypeId} (h : w.heap[b]? = some (.cells #[a0, a1, a2, a3] t (0, 0))) :
    w.cell? ⟨b, 0, none⟩ = some a0 ∧ w.cell? ⟨b, 1, none⟩ = some a1 ∧ w.cell? ⟨b, 2, none⟩ = some a2 ∧ w.cell? ⟨b, 3, none⟩ = some a3 :=
  ⟨by simp [World.cell?, h], by simp [World.cell?, h], by simp [World.cell?, h], by simp [World.cell?, h]⟩
theorem blk3 {w : World} {b : Nat} {a0 a1 a2 : Value} {t : TypeId} (h : w.heap[b]? = some (.cells #[a0, a1, a2] t (0, 0))) :
    w.cell? ⟨b, 0, none⟩ = some a0 ∧ w.cell? ⟨b, 1, none⟩ = some a1 ∧ w.cell? ⟨b, 2, none⟩ = some a2 ∧ w.frozen? ⟨b, 0, none⟩ = false ∧ w.frozen? ⟨b, 1, none⟩ = false ∧ w.frozen? ⟨b, 2, none⟩ = false :=
  ⟨by simp [World.cell?, h], by simp [World.cell?, h], by simp [World.cell?, h], by simp [World.frozen?, h], by simp [World.frozen?, h], by simp [World.frozen?, h]⟩
theorem blk_new (w : World) (o : Obj) : (w.alloc o).heap[w.heap.size]? = some o := heap_alloc_new w o
theorem bel_alloc (w : World) (o : Obj) : Below w.heap.size w (w.alloc o) := Below.alloc (Below.refl _ _) (Nat.le_refl _) o

theorem blk_at (W : World) (o : Obj) (b : Nat) (h : b = W.heap.size) : (W.alloc o).heap[b]? = some o := by subst h; exact blk_new W o
theorem set3 {α : Type} {d : Kd α} {e : Nat} {w : World} {base : Nat} {v : Value} {xs : List α} (h : d.R e w base (fun _ => True) v xs) {g t : Nat} {cells : Array Value} (hb : w.heap[g]? = some (.cells cells t (0, 0))) (ht : ∀ q, q ∈ e :: d.E → q ≠ t) (a b c : Value) : d.R e (((w.setCell ⟨g, 0, none⟩ a).setCell ⟨g, 1, none⟩ b).setCell ⟨g, 2, none⟩ c) base (fun _ => True) v xs :=
  Kd.R_mono (Kd.R_far (p := ⟨g, 2, none⟩) (Kd.R_far (p := ⟨g, 1, none⟩) (Kd.R_far (p := ⟨g, 0, none⟩) (Kd.R_types h hb ht) (fun _ hk => hk.2) a) (fun _ hk => hk.2) b) (fun _ hk => hk.2) c) (fun _ _ => trivial)
theorem c_nil {α : Type} {d : Kd α} {w : World} : d.C w none 0 [] := by
  obtain ⟨A, c, he, _, h⟩ := Kd.R_reads (Kd.R_nil d 0 w 0 (fun _ => True))
  simp only [List.length_nil, Value.slice.injEq] at he
  obtain ⟨rfl, _, _⟩ := he
  exact h

set_option maxHeartbeats 2000000 in
theorem check_doc (w : World) : Calls Tryz.prog 54 #[docv] w fun e w' => e = .returned (.int .i64 0) ∧ Below w.heap.size w w' := by
  obtain ⟨W, hW⟩ : ∃ W, W = w.alloc (.cells #[.int .i64 20, .int .i64 20, .int .i64 0, .slice none 0 0, .int .i64 1, .int .i64 0, .int .i64 0, .slice none 0 0, .slice none 0 0, .slice none 0 0] 60) := ⟨_, rfl⟩
  have hbW : Below w.heap.size w W := by rw [hW]; exact bel_alloc _ _
  have hd : W.heap[w.heap.size]? = some (.cells #[.int .i64 20, .int .i64 20, .int .i64 0, .slice none 0 0, .int .i64 1, .int .i64 0, .int .i64 0, .slice none 0 0, .slice none 0 0, .slice none 0 0] 60 (0, 0)) := by rw [hW]; exact blk_new w _
  have HW := Lib.hid hW
  have HbW := Lib.hid hbW
  have Hd := Lib.hid hd
  clear hW hbW hd
  unfold docv
  go_enter Tryz.func54, Tryz.ntmps54
  go_wp2_with fail
  rw [← HW.out]
  have K := Pa.document_header.calls 5 20 20 0 0 W (by rfl)
  with_reducible refine K.mono ?_
  clear K
  rintro e w1 ⟨rfl, hd1⟩
  have Hd1 := Lib.hid (blk_in hd1.below Hd.out)
  have Hb1 := Lib.hid (HbW.out.trans (hd1.below.mono HbW.out.size))
  clear hd1
  obtain ⟨d0, d1, d2, d3, d4, d5, d6, d7, d8, d9⟩ := blk10 Hd1.out
  go_wp2_with fail
  obtain ⟨x0, hx0⟩ : ∃ x0, x0 = w1.alloc (.cells #[.func (.func 64) #[] #[], .func (.func 65) #[] #[], .func (.func 66) #[] #[], .func (.func 67) #[] #[]] 76) := ⟨_, rfl⟩
  have hx01 : Below w1.heap.size w1 x0 := by rw [hx0]; exact bel_alloc _ _
  have Hf0 := Lib.hid (show x0.heap[w1.heap.size]? = some (.cells #[.func (.func 64) #[] #[], .func (.func 65) #[] #[], .func (.func 66) #[] #[], .func (.func 67) #[] #[]] 76 (0, 0)) by rw [hx0]; exact blk_new _ _)
  have Hd2 := Lib.hid (blk_in hx01 Hd1.out)
  have Hb2 := Lib.hid (Hb1.out.trans (hx01.mono Hb1.out.size))
  rw [← hx0]
  clear hx0 hx01 d0 d1 d2 d3 d4 d5 d6 d7 d8 d9
  obtain ⟨d0, d1, d2, d3, d4, d5, d6, d7, d8, d9⟩ := blk10 Hd2.out
  obtain ⟨f0, f1, f2, f3⟩ := blk4 Hf0.out
  refine wp_loop_rounds 5 ?_
  rw [rounds_succ]
  go_wp2_with fail
  have K := nodes_none x0
  unfold docv at K
  with_reducible refine K.mono ?_
  clear K
  rintro e x1 ⟨rfl, hx⟩
  have Hd3 := Lib.hid (blk_in hx Hd2.out)
  have Hf1 := Lib.hid (blk_in hx Hf0.out)
  have Hb3 := Lib.hid (Hb2.out.trans (hx.mono Hb2.out.size))
  clear hx d0 d1 d2 d3 d4 d5 d6 d7 d8 d9 f0 f1 f2 f3
  obtain ⟨d0, d1, d2, d3, d4, d5, d6, d7, d8, d9⟩ := blk10 Hd3.out
  obtain ⟨f0, f1, f2, f3⟩ := blk4 Hf1.out
  go_wp2
  rw [rounds_succ]
  go_wp2_with fail
  have K := clips_none x1
  unfold docv at K
  with_reducible refine K.mono ?_
  clear K
  rintro e x2 ⟨rfl, hx⟩
  have Hd4 := Lib.hid (blk_in hx Hd3.out)
  have Hf2 := Lib.hid (blk_in hx Hf1.out)
  have Hb4 := Lib.hid (Hb3.out.trans (hx.mono Hb3.out.size))
  clear hx d0 d1 d2 d3 d4 d5 d6 d7 d8 d9 f0 f1 f2 f3
  obtain ⟨d0, d1, d2, d3, d4, d5, d6, d7, d8, d9⟩ := blk10 Hd4.out
  obtain ⟨f0, f1, f2, f3⟩ := blk4 Hf2.out
  go_wp2
  rw [rounds_succ]
  go_wp2_with fail
  have K := links_none x2
  unfold docv at K
  with_reducible refine K.mono ?_
  clear K
  rintro e x3 ⟨rfl, hx⟩
  have Hd5 := Lib.hid (blk_in hx Hd4.out)
  have Hf3 := Lib.hid (blk_in hx Hf2.out)
  have Hb5 := Lib.hid (Hb4.out.trans (hx.mono Hb4.out.size))
  clear hx d0 d1 d2 d3 d4 d5 d6 d7 d8 d9 f0 f1 f2 f3
  obtain ⟨d0, d1, d2, d3, d4, d5, d6, d7, d8, d9⟩ := blk10 Hd5.out
  obtain ⟨f0, f1, f2, f3⟩ := blk4 Hf3.out
  go_wp2
  rw [rounds_succ]
  go_wp2_with fail
  have K := refs_none x3
  unfold docv at K
  with_reducible refine K.mono ?_
  clear K
  rintro e x4 ⟨rfl, hx⟩
  have Hd6 := Lib.hid (blk_in hx Hd5.out)
  have Hf4 := Lib.hid (blk_in hx Hf3.out)
  have Hb6 := Lib.hid (Hb5.out.trans (hx.mono Hb5.out.size))
  clear hx d0 d1 d2 d3 d4 d5 d6 d7 d8 d9 f0 f1 f2 f3
  obtain ⟨d0, d1, d2, d3, d4, d5, d6, d7, d8, d9⟩ := blk10 Hd6.out
  obtain ⟨f0, f1, f2, f3⟩ := blk4 Hf4.out
  go_wp2
  rw [rounds_succ]
  go_wp2_with fail
  have K := cyclic_none x4
  unfold docv at K
  with_reducible refine K.mono ?_
  clear K
  rintro e x5 ⟨rfl, hx⟩
  have Hd7 := Lib.hid (blk_in hx Hd6.out)
  have Hb7 := Lib.hid (Hb6.out.trans (hx.mono Hb6.out.size))
  clear hx d0 d1 d2 d3 d4 d5 d6 d7 d8 d9 f0 f1 f2 f3
  obtain ⟨d0, d1, d2, d3, d4, d5, d6, d7, d8, d9⟩ := blk10 Hd7.out
  go_wp2_with fail
  have K := mask_none x5
  with_reducible refine K.mono ?_
  clear K
  rintro e x6 ⟨rfl, hx⟩
  have Hd8 := Lib.hid (blk_in hx Hd7.out)
  have Hb8 := Lib.hid (Hb7.out.trans (hx.mono Hb7.out.size))
  clear hx d0 d1 d2 d3 d4 d5 d6 d7 d8 d9
  obtain ⟨d0, d1, d2, d3, d4, d5, d6, d7, d8, d9⟩ := blk10 Hd8.out
  go_wp2_with fail
  have K := meta_none x6
  with_reducible refine K.mono ?_
  clear K
  rintro e x7 ⟨rfl, hx⟩
  have Hb9 := Lib.hid (Hb8.out.trans (hx.mono Hb8.out.size))
  clear hx d0 d1 d2 d3 d4 d5 d6 d7 d8 d9
  go_wp2
  go_ret
  exact ⟨rfl, Hb9.out⟩

theorem begin_doc (w : World) : Calls Tryz.prog 84 #[docv] w fun e w' => ∃ g m, e = .returned (.tuple #[.pointer (some ⟨g, 0, none⟩), .int .i64 0]) ∧ w'.heap[g]? = some (.cells #[.int .i64 20, .int .i64 20, .int .i64 0, .slice none 0 0, .int .i64 1, .int .i64 0, .int .i64 0, .slice none 0 0, .slice none 0 0, .slice none 0 0, m] 124 (0, 0)) ∧ Below w.heap.size w w' := by
  have hmm := @run_makeMap Tryz.prog
  obtain ⟨W, hW⟩ : ∃ W, W = w.alloc (.cells #[.int .i64 20, .int .i64 20, .int .i64 0, .slice none 0 0, .int .i64 1, .int .i64 0, .int .i64 0, .slice none 0 0, .slice none 0 0, .slice none 0 0] 60) := ⟨_, rfl⟩
  have hbW : Below w.heap.size w W := by rw [hW]; exact bel_alloc _ _
  have hd : W.heap[w.heap.size]? = some (.cells #[.int .i64 20, .int .i64 20, .int .i64 0, .slice none 0 0, .int .i64 1, .int .i64 0, .int .i64 0, .slice none 0 0, .slice none 0 0, .slice none 0 0] 60 (0, 0)) := by rw [hW]; exact blk_new w _
  have HW := Lib.hid hW
  have HbW := Lib.hid hbW
  have Hd := Lib.hid hd
  obtain ⟨d0, d1, d2, d3, d4, d5, d6, d7, d8, d9⟩ := blk10 hd
  clear hW hbW hd
  unfold docv
  go_enter Tryz.func84, Tryz.ntmps84
  go_wp2_with fail
  rw [← HW.out]
  have K := check_doc W
  unfold docv at K
  with_reducible refine K.mono ?_
  clear K
  rintro e w1 ⟨rfl, hb1⟩
  have Hb1 := Lib.hid (HbW.out.trans (hb1.mono HbW.out.size))
  have Hd1 := Lib.hid (blk_in hb1 Hd.out)
  clear hb1 d0 d1 d2 d3 d4 d5 d6 d7 d8 d9
  obtain ⟨d0, d1, d2, d3, d4, d5, d6, d7, d8, d9⟩ := blk10 Hd1.out
  go_wp2
  go_returns
  refine ⟨_, _, rfl, blk_at _ _ _ (by simp), ?_⟩
  refine Below.alloc (Below.alloc Hb1.out Hb1.out.size _) ?_ _
  have := Hb1.out.size
  simp; omega

theorem area_doc (w : World) : Calls Tryz.prog 85 #[docv, .agg #[.int .i64 0, .int .i64 0, .int .i64 20, .int .i64 20]] w fun e w' => e = .returned (.int .i64 0) ∧ Below w.heap.size w w' := by
  obtain ⟨W, hW⟩ : ∃ W, W = (w.alloc (.cells #[.int .i64 20, .int .i64 20, .int .i64 0, .slice none 0 0, .int .i64 1, .int .i64 0, .int .i64 0, .slice none 0 0, .slice none 0 0, .slice none 0 0] 60)).alloc (.cells #[.int .i64 0, .int .i64 0, .int .i64 20, .int .i64 20] 23) := ⟨_, rfl⟩
  have hbW : Below w.heap.size w W := by rw [hW]; exact (bel_alloc _ _).alloc (by simp) _
  have hd : W.heap[w.heap.size]? = some (.cells #[.int .i64 20, .int .i64 20, .int .i64 0, .slice none 0 0, .int .i64 1, .int .i64 0, .int .i64 0, .slice none 0 0, .slice none 0 0, .slice none 0 0] 60 (0, 0)) := by rw [hW]; exact blk_in (bel_alloc _ _) (blk_new w _)
  have hr : W.heap[w.heap.size + 1]? = some (.cells #[.int .i64 0, .int .i64 0, .int .i64 20, .int .i64 20] 23 (0, 0)) := by rw [hW]; exact blk_at _ _ _ (by simp)
  have hS : ∀ w' : World, Below W.heap.size W w' → w'.cell? ⟨w.heap.size, 0, none⟩ = some (.int .i64 20) ∧ w'.cell? ⟨w.heap.size, 1, none⟩ = some (.int .i64 20) ∧ w'.cell? ⟨w.heap.size, 2, none⟩ = some (.int .i64 0) ∧ w'.cell? ⟨w.heap.size, 3, none⟩ = some (.slice none 0 0) ∧ w'.cell? ⟨w.heap.size, 4, none⟩ = some (.int .i64 1) ∧ w'.cell? ⟨w.heap.size, 5, none⟩ = some (.int .i64 0) ∧ w'.cell? ⟨w.heap.size, 6, none⟩ = some (.int .i64 0) ∧ w'.cell? ⟨w.heap.size, 7, none⟩ = some (.slice none 0 0) ∧ w'.cell? ⟨w.heap.size, 8, none⟩ = some (.slice none 0 0) ∧ w'.cell? ⟨w.heap.size, 9, none⟩ = some (.slice none 0 0) ∧ w'.cell? ⟨w.heap.size + 1, 0, none⟩ = some (.int .i64 0) ∧ w'.cell? ⟨w.heap.size + 1, 1, none⟩ = some (.int .i64 0) ∧ w'.cell? ⟨w.heap.size + 1, 2, none⟩ = some (.int .i64 20) ∧ w'.cell? ⟨w.heap.size + 1, 3, none⟩ = some (.int .i64 20) := by
    intro w' hb
    obtain ⟨a0, a1, a2, a3, a4, a5, a6, a7, a8, a9⟩ := blk10 (blk_in hb hd)
    obtain ⟨b0, b1, b2, b3⟩ := blk4 (blk_in hb hr)
    exact ⟨a0, a1, a2, a3, a4, a5, a6, a7, a8, a9, b0, b1, b2, b3⟩
  have HW := Lib.hid hW
  have HbW := Lib.hid hbW
  have HS := Lib.hid hS
  obtain ⟨d0, d1, d2, d3, d4, d5, d6, d7, d8, d9⟩ := blk10 hd
  obtain ⟨r0, r1, r2, r3⟩ := blk4 hr
  clear hW hbW hd hr hS
  unfold docv
  go_enter Tryz.func85, Tryz.ntmps85
  go_wp2_with fail
  rw [← HW.out]
  go_region_held3 (fun w' => w'.cell? ⟨w.heap.size, 0, none⟩ = some (.int .i64 20) ∧ w'.cell? ⟨w.heap.size, 1, none⟩ = some (.int .i64 20) ∧ w'.cell? ⟨w.heap.size, 2, none⟩ = some (.int .i64 0) ∧ w'.cell? ⟨w.heap.size, 3, none⟩ = some (.slice none 0 0) ∧ w'.cell? ⟨w.heap.size, 4, none⟩ = some (.int .i64 1) ∧ w'.cell? ⟨w.heap.size, 5, none⟩ = some (.int .i64 0) ∧ w'.cell? ⟨w.heap.size, 6, none⟩ = some (.int .i64 0) ∧ w'.cell? ⟨w.heap.size, 7, none⟩ = some (.slice none 0 0) ∧ w'.cell? ⟨w.heap.size, 8, none⟩ = some (.slice none 0 0) ∧ w'.cell? ⟨w.heap.size, 9, none⟩ = some (.slice none 0 0) ∧ w'.cell? ⟨w.heap.size + 1, 0, none⟩ = some (.int .i64 0) ∧ w'.cell? ⟨w.heap.size + 1, 1, none⟩ = some (.int .i64 0) ∧ w'.cell? ⟨w.heap.size + 1, 2, none⟩ = some (.int .i64 20) ∧ w'.cell? ⟨w.heap.size + 1, 3, none⟩ = some (.int .i64 20))
    (first
      | go_keep
      | exact Hk1.out
      | exact Hk2.out
      | exact Hk3.out
      | exact Hk4.out)
    (first
      | (go_at_call 28
         with_reducible refine (Pa.rect_Valid.calls 0 0 20 20 true W.drew (by decide +kernel)).mono ?_
         rintro e w1 ⟨rfl, hb⟩
         have Hb1 := Lib.hid ((Below.drew (Below.refl _ _)).trans hb : Below W.heap.size W w1)
         have Hk1 := Lib.hid (HS.out w1 Hb1.out)
         clear hb)
      | (go_at_call 29
         with_reducible refine (Pa.rect_Empty.calls 0 0 20 20 false w1 (by decide +kernel)).mono ?_
         rintro e w2 ⟨rfl, hb⟩
         have Hb2 := Lib.hid (Hb1.out.trans (hb.mono Hb1.out.size))
         have Hk2 := Lib.hid (HS.out w2 Hb2.out)
         clear hb)
      | (go_at_call 97
         have K := canvas_doc w2
         unfold docv at K
         with_reducible refine K.mono ?_
         clear K
         rintro e w3 ⟨rfl, hb⟩
         have Hb3 := Lib.hid (Hb2.out.trans (hb.mono Hb2.out.size))
         have Hk3 := Lib.hid (HS.out w3 Hb3.out)
         clear hb)
      | (go_at_call 30
         with_reducible refine (Pa.rect_Within.calls 0 0 20 20 0 0 20 20 true w3 (by decide +kernel)).mono ?_
         rintro e w4 ⟨rfl, hb⟩
         have Hb4 := Lib.hid (Hb3.out.trans (hb.mono Hb3.out.size))
         have Hk4 := Lib.hid (HS.out w4 Hb4.out)
         clear hb))
  go_wp2
  go_ret
  exact ⟨rfl, HbW.out.trans (Hb4.out.mono HbW.out.size)⟩

theorem neq23 (w : World) (a0 b0 a1 b1 a2 b2 a3 b3 : Int) : (binOp .neq 23 (.agg #[.int .i64 a0, .int .i64 a1, .int .i64 a2, .int .i64 a3]) (.agg #[.int .i64 b0, .int .i64 b1, .int .i64 b2, .int .i64 b3])).run Tryz.prog w = .ok (.bool (!(decide (a0 = b0) && (decide (a1 = b1) && (decide (a2 = b2) && decide (a3 = b3)))))) w := by
  have hu := Tryz.underlying23
  have h3 := Tryz.underlying3
  simp only [binOp, Op.equal, Op.maxDepth]
  go_simp
  by_cases e1 : a0 = b0 <;> by_cases e2 : a1 = b1 <;> by_cases e3 : a2 = b2 <;> by_cases e4 : a3 = b3 <;> simp [e1, e2, e3, e4]

set_option maxHeartbeats 2000000 in
theorem comp_doc (w : World) (p : Value) : Calls Tryz.prog 86 #[p, .slice none 0 0, .agg #[.int .i64 0, .int .i64 0, .int .i64 20, .int .i64 20]] w fun e w' => ∃ v, e = .returned (.tuple #[.agg #[.int .i64 20, .int .i64 20, v], .int .i64 0]) ∧ Kd.R Pa.k44 44 w' w.heap.size (fun _ => True) v (List.replicate 400 Pa.z44) ∧ Below w.heap.size w w' := by
  have hne := neq23
  obtain ⟨W, hW⟩ : ∃ W, W = ((w.alloc (.cells #[.int .i64 0, .int .i64 0, .int .i64 20, .int .i64 20] 23)).alloc (.cells #[.int .i64 0, .int .i64 0, .slice none 0 0] 31)).alloc (.cells #[.int .i64 0, .int .i64 0, .int .i64 20, .int .i64 20] 23) := ⟨_, rfl⟩
  have hbW : Below w.heap.size w W := by rw [hW]; exact ((bel_alloc _ _).alloc (by simp) _).alloc (by simp; omega) _
  have hr5 : W.heap[w.heap.size]? = some (.cells #[.int .i64 0, .int .i64 0, .int .i64 20, .int .i64 20] 23 (0, 0)) := by rw [hW]; exact blk_in (bel_alloc _ _) (blk_in (bel_alloc _ _) (blk_new w _))
  have hr6 : W.heap[w.heap.size + 1]? = some (.cells #[.int .i64 0, .int .i64 0, .slice none 0 0] 31 (0, 0)) := by rw [hW]; exact blk_in (bel_alloc _ _) (blk_at _ _ _ (by simp))
  have hr8 : W.heap[w.heap.size + 1 + 1]? = some (.cells #[.int .i64 0, .int .i64 0, .int .i64 20, .int .i64 20] 23 (0, 0)) := by rw [hW]; exact blk_at _ _ _ (by simp)
  have HW := Lib.hid hW
  have HbW := Lib.hid hbW
  have Hr5 := Lib.hid hr5
  have Hr6 := Lib.hid hr6
  have Hr8 := Lib.hid hr8
  clear hW hbW hr5 hr6 hr8
  go_enter Tryz.func86, Tryz.ntmps86
  go_wp2_with fail
  rw [← HW.out]
  obtain ⟨a0, a1, a2, a3⟩ := blk4 Hr8.out
  refine wp_loop_rounds 1 ?_
  rw [rounds_succ]
  go_wp2_with fail
  have K := Pa.eval_plain.calls 500 0 0 20 20 0 0 0 0 20 20 (List.replicate 400 Pa.z44) W (by kernel_rfl)
  with_reducible refine K.mono ?_
  clear K
  rintro e w1 ⟨v1, rfl, hv1, hb1⟩
  obtain ⟨A1, c1, rfl⟩ := Kd.R_slice hv1
  have Hv1 := Lib.hid hv1
  have Hb1 := Lib.hid hb1
  have Hr5' := Lib.hid (blk_in hb1 Hr5.out)
  have Hr6' := Lib.hid (blk_in hb1 Hr6.out)
  have Hr8' := Lib.hid (blk_in hb1 Hr8.out)
  clear hv1 hb1 a0 a1 a2 a3
  obtain ⟨a0, a1, a2, a3⟩ := blk4 Hr8'.out
  obtain ⟨b0, b1, b2, b3⟩ := blk4 Hr5'.out
  obtain ⟨e0, e1, e2, f0, f1, f2⟩ := blk3 Hr6'.out
  have hl1 : w.heap.size + 1 < w1.heap.size := (Array.getElem?_eq_some_iff.1 Hr6'.out).1
  have hl0 : w.heap.size < w1.heap.size := by omega
  have hl2 : w.heap.size + 1 + 1 < w1.heap.size := (Array.getElem?_eq_some_iff.1 Hr8'.out).1
  go_wp2_with fail
  refine wp_loop_rounds 1 ?_
  rw [rounds_succ]
  go_wp2_with fail
  refine bodyPost_ret (v := .tuple #[.agg #[.int .i64 20, .int .i64 20, .slice A1 400 c1], .int .i64 0]) (by simp [results, Tryz.results86, go_sem, *]) rfl ⟨_, rfl, ?_, ?_⟩
  · refine Kd.R_alloc ?_ _
    exact Kd.R_mono (Kd.R_lower (set3 Hv1.out Hr6'.out (by decide) _ _ _) HbW.out.size) (fun _ _ => trivial)
  · have hb := HbW.out.trans (Hb1.out.mono HbW.out.size)
    refine Below.alloc (Below.setCell (Below.setCell (Below.setCell hb ?_ _) ?_ _) ?_ _) ?_ _ <;> first | (simp; done) | (have := hb.size; simp [World.setCell]; omega)

set_option maxHeartbeats 2000000 in
theorem group_doc (w : World) : Calls Tryz.prog 71 #[docv, .int .i64 0, .agg #[.int .i64 0, .int .i64 0, .int .i64 20, .int .i64 20]] w fun e w' => ∃ v, e = .returned (.tuple #[.agg #[.int .i64 20, .int .i64 20, v], .int .i64 0]) ∧ Kd.R Pa.k44 44 w' w.heap.size (fun _ => True) v (List.replicate 400 Pa.z44) ∧ Below w.heap.size w w' := by
  obtain ⟨W, hW⟩ : ∃ W, W = ((w.alloc (.cells #[.int .i64 20, .int .i64 20, .int .i64 0, .slice none 0 0, .int .i64 1, .int .i64 0, .int .i64 0, .slice none 0 0, .slice none 0 0, .slice none 0 0] 60)).alloc (.cells #[.int .i64 0, .int .i64 0, .int .i64 20, .int .i64 20] 23)).alloc (.cells #[.int .i64 0, .int .i64 0, .slice none 0 0] 31) := ⟨_, rfl⟩
  have hbW : Below w.heap.size w W := by rw [hW]; exact ((bel_alloc _ _).alloc (by simp) _).alloc (by simp; omega) _
  have hd : W.heap[w.heap.size]? = some (.cells #[.int .i64 20, .int .i64 20, .int .i64 0, .slice none 0 0, .int .i64 1, .int .i64 0, .int .i64 0, .slice none 0 0, .slice none 0 0, .slice none 0 0] 60 (0, 0)) := by rw [hW]; exact blk_in (bel_alloc _ _) (blk_in (bel_alloc _ _) (blk_new w _))
  have hr : W.heap[w.heap.size + 1]? = some (.cells #[.int .i64 0, .int .i64 0, .int .i64 20, .int .i64 20] 23 (0, 0)) := by rw [hW]; exact blk_in (bel_alloc _ _) (blk_at _ _ _ (by simp))
  have hi : W.heap[w.heap.size + 1 + 1]? = some (.cells #[.int .i64 0, .int .i64 0, .slice none 0 0] 31 (0, 0)) := by rw [hW]; exact blk_at _ _ _ (by simp)
  have HW := Lib.hid hW
  have HbW := Lib.hid hbW
  have Hd := Lib.hid hd
  have Hr := Lib.hid hr
  have Hi := Lib.hid hi
  obtain ⟨d0, d1, d2, d3, d4, d5, d6, d7, d8, d9⟩ := blk10 hd
  clear hW hbW hd hr hi
  unfold docv
  go_enter Tryz.func71, Tryz.ntmps71
  go_wp2_with fail
  rw [← HW.out]
  have K := begin_doc W
  unfold docv at K
  with_reducible refine K.mono ?_
  clear K
  rintro e w1 ⟨g, m, rfl, hg, hb⟩
  have Hg1 := Lib.hid hg
  have Hb1 := Lib.hid hb
  have Hd1 := Lib.hid (blk_in hb Hd.out)
  have Hr1 := Lib.hid (blk_in hb Hr.out)
  have Hi1 := Lib.hid (blk_in hb Hi.out)
  clear hg hb d0 d1 d2 d3 d4 d5 d6 d7 d8 d9
  obtain ⟨d0, d1, d2, d3, d4, d5, d6, d7, d8, d9⟩ := blk10 Hd1.out
  obtain ⟨b0, b1, b2, b3⟩ := blk4 Hr1.out
  go_wp2_with fail
  have K := area_doc w1
  unfold docv at K
  with_reducible refine K.mono ?_
  clear K
  rintro e w2 ⟨rfl, hb⟩
  have Hg2 := Lib.hid (blk_in hb Hg1.out)
  have Hb2 := Lib.hid (Hb1.out.trans (hb.mono Hb1.out.size))
  have Hr2 := Lib.hid (blk_in hb Hr1.out)
  have Hi2 := Lib.hid (blk_in hb Hi1.out)
  clear hb d0 d1 d2 d3 d4 d5 d6 d7 d8 d9 b0 b1 b2 b3
  obtain ⟨b0, b1, b2, b3⟩ := blk4 Hr2.out
  go_wp2_with fail
  go_region_held3 (fun w' => w'.cell? ⟨w.heap.size + 1, 0, none⟩ = some (.int .i64 0) ∧ w'.cell? ⟨w.heap.size + 1, 1, none⟩ = some (.int .i64 0) ∧ w'.cell? ⟨w.heap.size + 1, 2, none⟩ = some (.int .i64 20) ∧ w'.cell? ⟨w.heap.size + 1, 3, none⟩ = some (.int .i64 20))
    (first
      | go_keep
      | exact Hk3.out
      | exact Hk4.out)
    (first
      | (go_at_call 87
         have K := kids_none w2.drew g m Hg2.out
         with_reducible refine K.mono ?_
         clear K
         rintro e w3 ⟨rfl, hb⟩
         have hb' : Below w2.heap.size w2 w3 := (Below.drew (Below.refl _ _)).trans hb
         have Hb3 := Lib.hid (Hb2.out.trans (hb'.mono Hb2.out.size))
         have Hr3 := Lib.hid (blk_in hb' Hr2.out)
         have Hi3 := Lib.hid (blk_in hb' Hi2.out)
         have Hk3 := Lib.hid (blk4 Hr3.out)
         clear hb hb')
      | (go_at_call 86
         with_reducible refine (comp_doc w3 _).mono ?_
         rintro e w4 ⟨v4, rfl, hv4, hb⟩
         obtain ⟨A4, c4, rfl⟩ := Kd.R_slice hv4
         have Hv4 := Lib.hid hv4
         have Hb4 := Lib.hid (Hb3.out.trans (hb.mono Hb3.out.size))
         have Hr4 := Lib.hid (blk_in hb Hr3.out)
         have Hi4 := Lib.hid (blk_in hb Hi3.out)
         have Hk4 := Lib.hid (blk4 Hr4.out)
         obtain ⟨i0, i1, i2, y0, y1, y2⟩ := blk3 Hi4.out
         have hl4 : w.heap.size + 1 + 1 < w4.heap.size := (Array.getElem?_eq_some_iff.1 Hi4.out).1
         clear hv4 hb))
  go_wp2
  have HbX := Lib.hid (HbW.out.trans (Hb3.out.mono HbW.out.size))
  refine bodyPost_ret (v := .tuple #[.agg #[.int .i64 20, .int .i64 20, .slice A4 (List.replicate 400 Pa.z44).length c4], .int .i64 0]) (by simp [results, Tryz.results71, go_sem, *]) rfl ⟨_, rfl, ?_, ?_⟩
  · exact Kd.R_mono (Kd.R_lower (set3 Hv4.out Hi4.out (by decide) _ _ _) HbX.out.size) (fun _ _ => trivial)
  · have hb := HbW.out.trans (Hb4.out.mono HbW.out.size)
    refine Below.setCell (Below.setCell (Below.setCell hb ?_ _) ?_ _) ?_ _ <;> (simp; try omega)

set_option maxHeartbeats 2000000 in
theorem region_doc (w : World) : Calls Tryz.prog 56 #[docv, .agg #[.int .i64 0, .int .i64 0, .int .i64 20, .int .i64 20]] w fun e w' => ∃ v, e = .returned (.tuple #[.agg #[.int .i64 20, .int .i64 20, v], .int .i64 0]) ∧ Kd.R Pa.k44 44 w' w.heap.size (fun _ => True) v (List.replicate 400 Pa.z44) ∧ Below w.heap.size w w' := by
  obtain ⟨W, hW⟩ : ∃ W, W = ((w.alloc (.cells #[.int .i64 20, .int .i64 20, .int .i64 0, .slice none 0 0, .int .i64 1, .int .i64 0, .int .i64 0, .slice none 0 0, .slice none 0 0, .slice none 0 0] 60)).alloc (.cells #[.int .i64 0, .int .i64 0, .int .i64 20, .int .i64 20] 23)).alloc (.cells #[.int .i64 0, .int .i64 0, .slice none 0 0] 31) := ⟨_, rfl⟩
  have hbW : Below w.heap.size w W := by rw [hW]; exact ((bel_alloc _ _).alloc (by simp) _).alloc (by simp; omega) _
  have hd : W.heap[w.heap.size]? = some (.cells #[.int .i64 20, .int .i64 20, .int .i64 0, .slice none 0 0, .int .i64 1, .int .i64 0, .int .i64 0, .slice none 0 0, .slice none 0 0, .slice none 0 0] 60 (0, 0)) := by rw [hW]; exact blk_in (bel_alloc _ _) (blk_in (bel_alloc _ _) (blk_new w _))
  have hr : W.heap[w.heap.size + 1]? = some (.cells #[.int .i64 0, .int .i64 0, .int .i64 20, .int .i64 20] 23 (0, 0)) := by rw [hW]; exact blk_in (bel_alloc _ _) (blk_at _ _ _ (by simp))
  have hi : W.heap[w.heap.size + 1 + 1]? = some (.cells #[.int .i64 0, .int .i64 0, .slice none 0 0] 31 (0, 0)) := by rw [hW]; exact blk_at _ _ _ (by simp)
  have HW := Lib.hid hW
  have HbW := Lib.hid hbW
  have Hi := Lib.hid hi
  obtain ⟨d0, d1, d2, d3, d4, d5, d6, d7, d8, d9⟩ := blk10 hd
  obtain ⟨b0, b1, b2, b3⟩ := blk4 hr
  clear hW hbW hd hr hi
  unfold docv
  go_enter Tryz.func56, Tryz.ntmps56
  go_wp2_with fail
  rw [← HW.out]
  have K := group_doc W
  unfold docv at K
  with_reducible refine K.mono ?_
  clear K
  rintro e w4 ⟨v4, rfl, hv4, hb⟩
  obtain ⟨A4, c4, rfl⟩ := Kd.R_slice hv4
  have Hv4 := Lib.hid hv4
  have Hb4 := Lib.hid hb
  have Hi4 := Lib.hid (blk_in hb Hi.out)
  obtain ⟨i0, i1, i2, y0, y1, y2⟩ := blk3 Hi4.out
  have hl4 : w.heap.size + 1 + 1 < w4.heap.size := (Array.getElem?_eq_some_iff.1 Hi4.out).1
  clear hv4 hb d0 d1 d2 d3 d4 d5 d6 d7 d8 d9 b0 b1 b2 b3
  go_wp2
  have HbX := HbW
  refine bodyPost_ret (v := .tuple #[.agg #[.int .i64 20, .int .i64 20, .slice A4 (List.replicate 400 Pa.z44).length c4], .int .i64 0]) (by simp [results, Tryz.results56, go_sem, *]) rfl ⟨_, rfl, ?_, ?_⟩
  · exact Kd.R_mono (Kd.R_lower (set3 Hv4.out Hi4.out (by decide) _ _ _) HbX.out.size) (fun _ _ => trivial)
  · have hb := HbW.out.trans (Hb4.out.mono HbW.out.size)
    refine Below.setCell (Below.setCell (Below.setCell hb ?_ _) ?_ _) ?_ _ <;> (simp; try omega)
end Go.Proofs.YtkchkfmggbejfaaGreatDoor
