/- The law PyramidSizes walked. -/
import Derived.Test.YtkchkfmggbejfaaGreatDoorAw
import Derived.Test.YtkchkfmggbejfaaGreatDoorNb
namespace Go.Proofs.YtkchkfmggbejfaaGreatDoor
open Go.RowKit Go.Proofs.YtkchkfmggbejfaaGreatDoorW.PrintWords Go.Proofs.YtkchkfmggbejfaaGreatDoorW.PrintMore
set_option linter.unusedSimpArgs false
set_option maxRecDepth 20000

set_option maxHeartbeats 4000000 in
theorem sizes_walk (w h lv x y a b : Int) (w0 : World) : Calls Tryz.prog 3 #[.int .i64 w, .int .i64 h, .int .i64 lv, .agg #[.int .i64 x, .int .i64 y, .int .i64 a, .int .i64 b]] w0 fun e w' => e = .returned (.bool true) ∧ Below w0.heap.size w0 w' := by
  have q23 := eql23
  obtain ⟨W, hW⟩ : ∃ W, W = w0.alloc (.cells #[.int .i64 x, .int .i64 y, .int .i64 a, .int .i64 b] 23) := ⟨_, rfl⟩
  have hbW : Below w0.heap.size w0 W := by rw [hW]; exact bel_alloc _ _
  have hr : W.heap[w0.heap.size]? = some (.cells #[.int .i64 x, .int .i64 y, .int .i64 a, .int .i64 b] 23 (0, 0)) := by rw [hW]; exact blk_new w0 _
  obtain ⟨t1, t2, ht, hu⟩ := tiles_eq w h lv
  obtain ⟨⟨n1, n2, n3, n4⟩, hn⟩ : ∃ t, t = needs w h lv x y a b := ⟨_, rfl⟩
  have hrn := rneeds_f w h lv x y a b
  rw [← hn] at hrn
  have HW := Lib.hid hW
  have HbW := Lib.hid hbW
  have Hr := Lib.hid hr
  have Ht := Lib.hid ht
  have Hu := Lib.hid hu
  have Hn := Lib.hid hn
  have Hrn := Lib.hid hrn
  clear hW hbW hr ht hu hn hrn
  go_enter Tryz.func3, Tryz.ntmps3
  go_wp2_with fail
  rw [← HW.out]
  have K := Pa.pyramid_Size.calls 6 w h lv _ _ W (size_f 6 w h lv (Nat.le_refl _))
  with_reducible refine K.mono ?_
  clear K
  rintro en w1 ⟨rfl, hb⟩
  have Hr1 := Lib.hid (blk_in hb Hr.out)
  have Hb1 := Lib.hid (HbW.out.trans (hb.mono HbW.out.size))
  clear hb
  go_wp2_with fail
  skip
  have K := Pb.imageeditorref35_Size.calls 6 w h lv _ _ w1 (rsize_f 6 w h lv (Nat.le_refl _))
  with_reducible refine K.mono ?_
  clear K
  rintro en w2 ⟨rfl, hb⟩
  have Hr2 := Lib.hid (blk_in hb Hr1.out)
  have Hb2 := Lib.hid (Hb1.out.trans (hb.mono Hb1.out.size))
  clear hb
  go_wp2_with fail
  skip
  have K := Pa.pyramid_Tiles.calls 6 w h lv t1 t2 w2 Ht.out
  with_reducible refine K.mono ?_
  clear K
  rintro en w3 ⟨rfl, hb⟩
  have Hr3 := Lib.hid (blk_in hb Hr2.out)
  have Hb3 := Lib.hid (Hb2.out.trans (hb.mono Hb2.out.size))
  clear hb
  go_wp2_with fail
  skip
  have K := Pb.imageeditorref35_Tiles.calls 6 w h lv t1 t2 w3 Hu.out
  with_reducible refine K.mono ?_
  clear K
  rintro en w4 ⟨rfl, hb⟩
  have Hr4 := Lib.hid (blk_in hb Hr3.out)
  have Hb4 := Lib.hid (Hb3.out.trans (hb.mono Hb3.out.size))
  clear hb
  have hS : ∀ w' : World, Below w4.heap.size w4 w' → w'.cell? ⟨w0.heap.size, 0, none⟩ = some (.int .i64 x) ∧ w'.cell? ⟨w0.heap.size, 1, none⟩ = some (.int .i64 y) ∧ w'.cell? ⟨w0.heap.size, 2, none⟩ = some (.int .i64 a) ∧ w'.cell? ⟨w0.heap.size, 3, none⟩ = some (.int .i64 b) := fun w' hb => blk4 (blk_in hb Hr4.out)
  have HS := Lib.hid hS
  clear hS
  obtain ⟨c0, c1, c2, c3⟩ := HS.out w4 (Below.refl _ _)
  go_wp2_with fail
  go_region_held3 (fun w' => w'.cell? ⟨w0.heap.size, 0, none⟩ = some (.int .i64 x) ∧ w'.cell? ⟨w0.heap.size, 1, none⟩ = some (.int .i64 y) ∧ w'.cell? ⟨w0.heap.size, 2, none⟩ = some (.int .i64 a) ∧ w'.cell? ⟨w0.heap.size, 3, none⟩ = some (.int .i64 b))
    (first
      | go_keep
      | exact HS.out _ HC5.out
      | exact HS.out _ HC6.out
      | exact HS.out _ HC7.out)
    (first
      | (go_at_call 12
         have K := needs_any w h lv x y a b w4.drew
         rw [← Hn.out] at K
         unfold rv at K
         with_reducible refine K.mono ?_
         clear K
         rintro en w5 ⟨rfl, hb⟩
         have HC5 : Hid (Below w4.heap.size w4 w5) := Lib.hid ((Below.drew (Below.refl _ _)).trans hb)
         clear hb)
      | (go_at_call 13
         have K := Pb.imageeditorref35_Needs.calls 20 w h lv x y a b n1 n2 n3 n4 w5 Hrn.out
         with_reducible refine K.mono ?_
         clear K
         rintro en w6 ⟨rfl, hb⟩
         have HC6 := Lib.hid (HC5.out.trans (hb.mono HC5.out.size))
         clear hb)
      | (go_at_call 14
         have K := awake_any w6
         with_reducible refine K.mono ?_
         clear K
         rintro en w7 ⟨rfl, hb⟩
         have HC7 := Lib.hid (HC6.out.trans (hb.mono HC6.out.size))
         clear hb))
  all_goals
    go_wp2
    go_ret
    exact ⟨rfl, Hb4.out.trans (HC7.out.mono Hb4.out.size)⟩
end Go.Proofs.YtkchkfmggbejfaaGreatDoor
