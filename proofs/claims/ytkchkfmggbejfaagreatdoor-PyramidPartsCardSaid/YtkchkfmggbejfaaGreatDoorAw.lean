/- The examples that every law of the pyramid asks: awake. -/
import Derived.Test.YtkchkfmggbejfaaGreatDoorTi
import Derived.Test.YtkchkfmggbejfaaGreatDoorTk
namespace Go.Proofs.YtkchkfmggbejfaaGreatDoor
open Go.RowKit Go.Proofs.YtkchkfmggbejfaaGreatDoorW.PrintWords Go.Proofs.YtkchkfmggbejfaaGreatDoorW.PrintMore
set_option linter.unusedSimpArgs false
set_option linter.unusedVariables false
set_option maxRecDepth 20000
attribute [local go_sem] Act.put List.setIfInBounds_toArray List.set_cons_zero List.set_cons_succ

def p0 : Pa.S44 := ⟨0, 0, 0, 65535⟩
def pr (r : Int) : Pa.S44 := ⟨r, 0, 0, 65535⟩
theorem c_ints {W : World} {g : Nat} (l : List Int) (hn : l.length ≤ 1000) (h : W.heap[g]? = some (.cells (l.map (Value.int .i64)).toArray 3 (0, 0))) : Kd.C (Kd.int .i64) W (some ⟨g, 0, none⟩) l.length l := by
  refine ⟨rfl, by omega, fun _ => ⟨_, rfl, fun j p hp => ⟨[.int .i64 p], rfl, rfl, fun i u hu => ?_⟩⟩⟩
  have hi : i = 0 := by have := (List.getElem?_eq_some_iff.1 hu).1; simp at this; omega
  subst hi
  have hu' : u = .int .i64 p := by simpa using hu.symm
  subst hu'
  have h1 := World.news_of_block (cs := (l.map (Value.int .i64)).toArray) h j (.int .i64 p) (by simp [hp])
  have e : j * (Kd.int .i64).sz + 0 = j := by
    have : (Kd.int .i64).sz = 1 := rfl
    rw [this]; omega
  rw [e]
  exact h1
theorem red0_doc (A : Option Addr) (c : Nat) (W : World) (h : Kd.C Pa.k44 W A [pr 1, pr 2, pr 3].length [pr 1, pr 2, pr 3]) (hc : [pr 1, pr 2, pr 3].length ≤ c) : Calls Tryz.prog 17 #[.agg #[.int .i64 3, .int .i64 1, .slice A 3 c], .int .i64 0] W fun en w' => ∃ v, en = .returned (.tuple #[.agg #[.int .i64 3, .int .i64 1, v], .int .i64 0]) ∧ Kd.R Pa.k44 44 w' W.heap.size (fun _ => True) v [pr 1, pr 2, pr 3] ∧ Below W.heap.size W w' :=
  reduce_ok 60 3 1 A c [pr 1, pr 2, pr 3] 0 3 1 [pr 1, pr 2, pr 3] W h hc (by kernel_rfl) (by rfl) (by decide) (by omega) (by rfl)
theorem pick6 {p1 p2 p3 p4 p5 p6 p7 p8 p9 q1 q2 q3 q4 q5 q6 q7 : Prop} (h : p1 ∧ p2 ∧ p3 ∧ p4 ∧ p5 ∧ p6 ∧ p7 ∧ p8 ∧ p9 ∧ q1 ∧ q2 ∧ q3 ∧ q4 ∧ q5 ∧ q6 ∧ q7) : p1 ∧ p2 ∧ p3 ∧ p7 ∧ p8 ∧ p9 := by
  obtain ⟨h1, h2, h3, h4, h5, h6, h7, h8, h9, _⟩ := h
  exact ⟨h1, h2, h3, h7, h8, h9⟩
theorem c_px {W : World} {g : Nat} (l : List Pa.S44) (hn : l.length ≤ 1000) (h : W.heap[g]? = some (.cells (fl l).toArray 44 (0, 0))) : Kd.C Pa.k44 W (some ⟨g, 0, none⟩) l.length l := by
  refine ⟨rfl, by omega, fun _ => ⟨_, rfl, fun j p hp => ⟨pc p, rfl, Pa.k44_mk W p, fun i u hu => ?_⟩⟩⟩
  have h1 := World.news_of_block (cs := (fl l).toArray) h (j * 4 + i) u (by
    have hlt := (List.getElem?_eq_some_iff.1 hp).1
    have hi : i < 4 := by have := (List.getElem?_eq_some_iff.1 hu).1; simpa [pc] using this
    have hj : j * 4 + i < (fl l).length := by rw [fl_length]; omega
    obtain ⟨q, h1, h2⟩ := fl_get l (j * 4 + i) ((fl l)[j * 4 + i]) (List.getElem?_eq_getElem hj)
    have e1 : (j * 4 + i) / 4 = j := by omega
    have e2 : (j * 4 + i) % 4 = i := by omega
    rw [e1, hp] at h1
    rw [e2] at h2
    cases h1
    rw [hu] at h2
    rw [List.getElem?_eq_getElem hj, ← h2])
  exact h1
theorem eql44 (w : World) (a0 b0 a1 b1 a2 b2 a3 b3 : Int) : (binOp .eql 44 (.agg #[.int .i64 a0, .int .i64 a1, .int .i64 a2, .int .i64 a3]) (.agg #[.int .i64 b0, .int .i64 b1, .int .i64 b2, .int .i64 b3])).run Tryz.prog w = .ok (.bool (decide (a0 = b0) && (decide (a1 = b1) && (decide (a2 = b2) && decide (a3 = b3))))) w := by
  have hu := Tryz.underlying44
  have h3 := Tryz.underlying3
  simp only [binOp, Op.equal, Op.maxDepth]
  go_simp
  by_cases e1 : a0 = b0 <;> by_cases e2 : a1 = b1 <;> by_cases e3 : a2 = b2 <;> by_cases e4 : a3 = b3 <;> simp [e1, e2, e3, e4]
theorem eql23 (w : World) (a0 b0 a1 b1 a2 b2 a3 b3 : Int) : (binOp .eql 23 (.agg #[.int .i64 a0, .int .i64 a1, .int .i64 a2, .int .i64 a3]) (.agg #[.int .i64 b0, .int .i64 b1, .int .i64 b2, .int .i64 b3])).run Tryz.prog w = .ok (.bool (decide (a0 = b0) && (decide (a1 = b1) && (decide (a2 = b2) && decide (a3 = b3))))) w := by
  have hu := Tryz.underlying23
  have h3 := Tryz.underlying3
  simp only [binOp, Op.equal, Op.maxDepth]
  go_simp
  by_cases e1 : a0 = b0 <;> by_cases e2 : a1 = b1 <;> by_cases e3 : a2 = b2 <;> by_cases e4 : a3 = b3 <;> simp [e1, e2, e3, e4]


set_option maxHeartbeats 8000000 in
theorem awake_any (w : World) : Calls Tryz.prog 14 #[] w fun e w' => e = .returned (.bool true) ∧ Below w.heap.size w w' := by
  have q44 := eql44
  have q23 := eql23
  go_enter Tryz.func14, Tryz.ntmps14
  go_wp2_with fail
  have K := Pa.pyramid_Size.calls 6 5 3 1 3 2 w (by kernel_rfl)
  try simp only [List.length_cons, List.length_nil, Nat.reduceAdd] at K
  with_reducible refine K.mono ?_
  clear K
  rintro en a1 ⟨rfl, hbl⟩
  have HB_1 : Hid (Below w.heap.size w a1) := Lib.hid (hbl)
  clear hbl
  go_wp2_with fail
  have K := Pa.pyramid_Tiles.calls 6 33 16 0 3 1 a1 (by kernel_rfl)
  try simp only [List.length_cons, List.length_nil, Nat.reduceAdd] at K
  with_reducible refine K.mono ?_
  clear K
  rintro en a2 ⟨rfl, hbl⟩
  have HB_2 : Hid (Below w.heap.size w a2) := Lib.hid (HB_1.out.trans (hbl.mono HB_1.out.size))
  clear hbl
  go_wp2_with fail
  obtain ⟨a3, hnew⟩ : ∃ W, W = a2.alloc (.cells #[.int .i64 0, .int .i64 10, .int .i64 20] 3) := ⟨_, rfl⟩
  have hbl : Below a2.heap.size a2 a3 := by rw [hnew]; exact bel_alloc _ _
  have bk_0 := Lib.hid (show a3.heap[a2.heap.size]? = some (.cells #[.int .i64 0, .int .i64 10, .int .i64 20] 3 (0, 0)) by rw [hnew]; exact blk_new _ _)
  have hz_a3 := Lib.hid (show a3.heap.size = a2.heap.size + 1 by rw [hnew]; simp)
  rw [← hnew]
  clear hnew
  have HB_3 : Hid (Below w.heap.size w a3) := Lib.hid (HB_2.out.trans (hbl.mono HB_2.out.size))
  clear hbl
  have hcc := c_ints [0, 10, 20] (by decide) bk_0.out
  have K := Pa.imageeditorlaw35_row.calls 20 _ 3 [0, 10, 20] 3 1 [pr 0, pr 10, pr 20] a3 hcc (Nat.le_refl _) (by kernel_rfl)
  try simp only [List.length_cons, List.length_nil, Nat.reduceAdd] at K
  with_reducible refine K.mono ?_
  clear K
  rintro en a4 ⟨vv, rfl, hvv, hbl⟩
  have HB_4 : Hid (Below w.heap.size w a4) := Lib.hid (HB_3.out.trans (hbl.mono HB_3.out.size))
  clear hbl
  clear hcc bk_0
  obtain ⟨r1A, r1c, rfl, r1h, r1C⟩ := Kd.R_reads hvv
  have r1R := Lib.hid hvv
  have r1K := Lib.hid r1C
  clear hvv r1C
  go_wp2_with fail
  have K := Pa.pyramid_Half.calls 60 3 1 r1A r1c [pr 0, pr 10, pr 20] 2 1 [pr 5, pr 20] 0 a4 r1K.out r1h (by kernel_rfl)
  try simp only [List.length_cons, List.length_nil, Nat.reduceAdd] at K
  with_reducible refine K.mono ?_
  clear K
  rintro en a5 ⟨vv, rfl, hvv, hbl⟩
  have r1K_5 := Lib.hid (Kd.C_below r1K.out hbl)
  clear r1K
  have HB_5 : Hid (Below w.heap.size w a5) := Lib.hid (HB_4.out.trans (hbl.mono HB_4.out.size))
  clear hbl
  obtain ⟨iA, ic, rfl, ih, iC⟩ := Kd.R_reads hvv
  have iK := Lib.hid iC
  clear hvv iC
  go_wp2_with fail
  obtain ⟨a6, hnew⟩ : ∃ W, W = a5.alloc (.cells #[.int .i64 2, .int .i64 1, .slice iA 2 ic] 31) := ⟨_, rfl⟩
  have hbl : Below a5.heap.size a5 a6 := by rw [hnew]; exact bel_alloc _ _
  have t5_0 := Lib.hid (show a6.heap[a5.heap.size]? = some (.cells #[.int .i64 2, .int .i64 1, .slice iA 2 ic] 31 (0, 0)) by rw [hnew]; exact blk_new _ _)
  have hz_a6 := Lib.hid (show a6.heap.size = a5.heap.size + 1 by rw [hnew]; simp)
  rw [← hnew]
  clear hnew
  have iK_6 := Lib.hid (Kd.C_below iK.out hbl)
  clear iK
  have HB_6 : Hid (Below w.heap.size w a6) := Lib.hid (HB_5.out.trans (hbl.mono HB_5.out.size))
  clear hbl
  obtain ⟨a7, hnew⟩ : ∃ W, W = a6.alloc (.cells #[.int .i64 65535, .int .i64 65535, .int .i64 65535, .int .i64 65535, .int .i64 0, .int .i64 0, .int .i64 0, .int .i64 0, .int .i64 7, .int .i64 0, .int .i64 0, .int .i64 0, .int .i64 0, .int .i64 0, .int .i64 0, .int .i64 0] 44) := ⟨_, rfl⟩
  have hbl : Below a6.heap.size a6 a7 := by rw [hnew]; exact bel_alloc _ _
  have bk_0 := Lib.hid (show a7.heap[a6.heap.size]? = some (.cells #[.int .i64 65535, .int .i64 65535, .int .i64 65535, .int .i64 65535, .int .i64 0, .int .i64 0, .int .i64 0, .int .i64 0, .int .i64 7, .int .i64 0, .int .i64 0, .int .i64 0, .int .i64 0, .int .i64 0, .int .i64 0, .int .i64 0] 44 (0, 0)) by rw [hnew]; exact blk_new _ _)
  have hz_a7 := Lib.hid (show a7.heap.size = a6.heap.size + 1 by rw [hnew]; simp)
  rw [hz_a6.out] at bk_0
  rw [← hnew]
  clear hnew
  have iK_7 := Lib.hid (Kd.C_below iK_6.out hbl)
  clear iK_6
  have t5_7 := Lib.hid (blk_in hbl t5_0.out)
  clear t5_0
  have HB_7 : Hid (Below w.heap.size w a7) := Lib.hid (HB_6.out.trans (hbl.mono HB_6.out.size))
  clear hbl
  have hcc := c_px [⟨65535, 65535, 65535, 65535⟩, ⟨0, 0, 0, 0⟩, ⟨7, 0, 0, 0⟩, ⟨0, 0, 0, 0⟩] (by decide) bk_0.out
  have K := Pa.pyramid_Half.calls 60 2 2 _ 4 [⟨65535, 65535, 65535, 65535⟩, ⟨0, 0, 0, 0⟩, ⟨7, 0, 0, 0⟩, ⟨0, 0, 0, 0⟩] 1 1 [⟨65535, 65535, 65535, 16384⟩] 0 a7 hcc (Nat.le_refl _) (by kernel_rfl)
  try simp only [List.length_cons, List.length_nil, Nat.reduceAdd] at K
  with_reducible refine K.mono ?_
  clear K
  rintro en a8 ⟨vv, rfl, hvv, hbl⟩
  have iK_8 := Lib.hid (Kd.C_below iK_7.out hbl)
  clear iK_7
  have t5_8 := Lib.hid (blk_in hbl t5_7.out)
  clear t5_7
  have HB_8 : Hid (Below w.heap.size w a8) := Lib.hid (HB_7.out.trans (hbl.mono HB_7.out.size))
  clear hbl
  clear hcc bk_0
  obtain ⟨jA, jc, rfl, jh, jC⟩ := Kd.R_reads hvv
  have jK := Lib.hid jC
  clear hvv jC
  go_wp2_with fail
  obtain ⟨a9, hnew⟩ : ∃ W, W = a8.alloc (.cells #[.int .i64 1, .int .i64 1, .slice jA 1 jc] 31) := ⟨_, rfl⟩
  have hbl : Below a8.heap.size a8 a9 := by rw [hnew]; exact bel_alloc _ _
  have t7_0 := Lib.hid (show a9.heap[a8.heap.size]? = some (.cells #[.int .i64 1, .int .i64 1, .slice jA 1 jc] 31 (0, 0)) by rw [hnew]; exact blk_new _ _)
  have hz_a9 := Lib.hid (show a9.heap.size = a8.heap.size + 1 by rw [hnew]; simp)
  rw [← hnew]
  clear hnew
  have iK_9 := Lib.hid (Kd.C_below iK_8.out hbl)
  clear iK_8
  have t5_9 := Lib.hid (blk_in hbl t5_8.out)
  clear t5_8
  have jK_9 := Lib.hid (Kd.C_below jK.out hbl)
  clear jK
  have HB_9 : Hid (Below w.heap.size w a9) := Lib.hid (HB_8.out.trans (hbl.mono HB_8.out.size))
  clear hbl
  obtain ⟨a10, hnew⟩ : ∃ W, W = a9.alloc (.cells #[.int .i64 1, .int .i64 2, .int .i64 3] 3) := ⟨_, rfl⟩
  have hbl : Below a9.heap.size a9 a10 := by rw [hnew]; exact bel_alloc _ _
  have bk_0 := Lib.hid (show a10.heap[a9.heap.size]? = some (.cells #[.int .i64 1, .int .i64 2, .int .i64 3] 3 (0, 0)) by rw [hnew]; exact blk_new _ _)
  have hz_a10 := Lib.hid (show a10.heap.size = a9.heap.size + 1 by rw [hnew]; simp)
  rw [hz_a9.out] at bk_0
  rw [← hnew]
  clear hnew
  have iK_10 := Lib.hid (Kd.C_below iK_9.out hbl)
  clear iK_9
  have t5_10 := Lib.hid (blk_in hbl t5_9.out)
  clear t5_9
  have jK_10 := Lib.hid (Kd.C_below jK_9.out hbl)
  clear jK_9
  have t7_10 := Lib.hid (blk_in hbl t7_0.out)
  clear t7_0
  have HB_10 : Hid (Below w.heap.size w a10) := Lib.hid (HB_9.out.trans (hbl.mono HB_9.out.size))
  clear hbl
  have hcc := c_ints [1, 2, 3] (by decide) bk_0.out
  have K := Pa.imageeditorlaw35_row.calls 20 _ 3 [1, 2, 3] 3 1 [pr 1, pr 2, pr 3] a10 hcc (Nat.le_refl _) (by kernel_rfl)
  try simp only [List.length_cons, List.length_nil, Nat.reduceAdd] at K
  with_reducible refine K.mono ?_
  clear K
  rintro en a11 ⟨vv, rfl, hvv, hbl⟩
  have iK_11 := Lib.hid (Kd.C_below iK_10.out hbl)
  clear iK_10
  have t5_11 := Lib.hid (blk_in hbl t5_10.out)
  clear t5_10
  have jK_11 := Lib.hid (Kd.C_below jK_10.out hbl)
  clear jK_10
  have t7_11 := Lib.hid (blk_in hbl t7_10.out)
  clear t7_10
  have HB_11 : Hid (Below w.heap.size w a11) := Lib.hid (HB_10.out.trans (hbl.mono HB_10.out.size))
  clear hbl
  clear hcc bk_0
  obtain ⟨r2A, r2c, rfl, r2h, r2C⟩ := Kd.R_reads hvv
  have r2K := Lib.hid r2C
  clear hvv r2C
  go_wp2_with fail
  have K := red0_doc r2A r2c a11 r2K.out r2h
  try simp only [List.length_cons, List.length_nil, Nat.reduceAdd] at K
  with_reducible refine K.mono ?_
  clear K
  rintro en a12 ⟨vv, rfl, hvv, hbl⟩
  have iK_12 := Lib.hid (Kd.C_below iK_11.out hbl)
  clear iK_11
  have t5_12 := Lib.hid (blk_in hbl t5_11.out)
  clear t5_11
  have jK_12 := Lib.hid (Kd.C_below jK_11.out hbl)
  clear jK_11
  have t7_12 := Lib.hid (blk_in hbl t7_11.out)
  clear t7_11
  have r2K_12 := Lib.hid (Kd.C_below r2K.out hbl)
  clear r2K
  have HB_12 : Hid (Below w.heap.size w a12) := Lib.hid (HB_11.out.trans (hbl.mono HB_11.out.size))
  clear hbl
  obtain ⟨kA, kc, rfl, kh, kC⟩ := Kd.R_reads hvv
  have kK := Lib.hid kC
  clear hvv kC
  go_wp2_with fail
  obtain ⟨a13, hnew⟩ : ∃ W, W = a12.alloc (.cells #[.int .i64 3, .int .i64 1, .slice kA 3 kc] 31) := ⟨_, rfl⟩
  have hbl : Below a12.heap.size a12 a13 := by rw [hnew]; exact bel_alloc _ _
  have t9_0 := Lib.hid (show a13.heap[a12.heap.size]? = some (.cells #[.int .i64 3, .int .i64 1, .slice kA 3 kc] 31 (0, 0)) by rw [hnew]; exact blk_new _ _)
  have hz_a13 := Lib.hid (show a13.heap.size = a12.heap.size + 1 by rw [hnew]; simp)
  rw [← hnew]
  clear hnew
  have iK_13 := Lib.hid (Kd.C_below iK_12.out hbl)
  clear iK_12
  have t5_13 := Lib.hid (blk_in hbl t5_12.out)
  clear t5_12
  have jK_13 := Lib.hid (Kd.C_below jK_12.out hbl)
  clear jK_12
  have t7_13 := Lib.hid (blk_in hbl t7_12.out)
  clear t7_12
  have kK_13 := Lib.hid (Kd.C_below kK.out hbl)
  clear kK
  have HB_13 : Hid (Below w.heap.size w a13) := Lib.hid (HB_12.out.trans (hbl.mono HB_12.out.size))
  clear hbl
  obtain ⟨a14, hnew⟩ : ∃ W, W = a13.alloc (.cells #[.int .i64 1, .int .i64 2, .int .i64 3] 3) := ⟨_, rfl⟩
  have hbl : Below a13.heap.size a13 a14 := by rw [hnew]; exact bel_alloc _ _
  have bk_0 := Lib.hid (show a14.heap[a13.heap.size]? = some (.cells #[.int .i64 1, .int .i64 2, .int .i64 3] 3 (0, 0)) by rw [hnew]; exact blk_new _ _)
  have hz_a14 := Lib.hid (show a14.heap.size = a13.heap.size + 1 by rw [hnew]; simp)
  rw [hz_a13.out] at bk_0
  rw [← hnew]
  clear hnew
  have iK_14 := Lib.hid (Kd.C_below iK_13.out hbl)
  clear iK_13
  have t5_14 := Lib.hid (blk_in hbl t5_13.out)
  clear t5_13
  have jK_14 := Lib.hid (Kd.C_below jK_13.out hbl)
  clear jK_13
  have t7_14 := Lib.hid (blk_in hbl t7_13.out)
  clear t7_13
  have kK_14 := Lib.hid (Kd.C_below kK_13.out hbl)
  clear kK_13
  have t9_14 := Lib.hid (blk_in hbl t9_0.out)
  clear t9_0
  have HB_14 : Hid (Below w.heap.size w a14) := Lib.hid (HB_13.out.trans (hbl.mono HB_13.out.size))
  clear hbl
  have hcc := c_ints [1, 2, 3] (by decide) bk_0.out
  have K := Pa.imageeditorlaw35_row.calls 20 _ 3 [1, 2, 3] 3 1 [pr 1, pr 2, pr 3] a14 hcc (Nat.le_refl _) (by kernel_rfl)
  try simp only [List.length_cons, List.length_nil, Nat.reduceAdd] at K
  with_reducible refine K.mono ?_
  clear K
  rintro en a15 ⟨vv, rfl, hvv, hbl⟩
  have iK_15 := Lib.hid (Kd.C_below iK_14.out hbl)
  clear iK_14
  have t5_15 := Lib.hid (blk_in hbl t5_14.out)
  clear t5_14
  have jK_15 := Lib.hid (Kd.C_below jK_14.out hbl)
  clear jK_14
  have t7_15 := Lib.hid (blk_in hbl t7_14.out)
  clear t7_14
  have kK_15 := Lib.hid (Kd.C_below kK_14.out hbl)
  clear kK_14
  have t9_15 := Lib.hid (blk_in hbl t9_14.out)
  clear t9_14
  have HB_15 : Hid (Below w.heap.size w a15) := Lib.hid (HB_14.out.trans (hbl.mono HB_14.out.size))
  clear hbl
  clear hcc bk_0
  obtain ⟨r3A, r3c, rfl, r3h, r3C⟩ := Kd.R_reads hvv
  have r3K := Lib.hid r3C
  clear hvv r3C
  go_wp2_with fail
  have K := reduce_range 60 3 1 r3A r3c [pr 1, pr 2, pr 3] 5 a15 r3K.out r3h (by kernel_rfl) (by rfl)
  try simp only [List.length_cons, List.length_nil, Nat.reduceAdd] at K
  with_reducible refine K.mono ?_
  clear K
  rintro en a16 ⟨rfl, hbl⟩
  have iK_16 := Lib.hid (Kd.C_below iK_15.out hbl)
  clear iK_15
  have t5_16 := Lib.hid (blk_in hbl t5_15.out)
  clear t5_15
  have jK_16 := Lib.hid (Kd.C_below jK_15.out hbl)
  clear jK_15
  have t7_16 := Lib.hid (blk_in hbl t7_15.out)
  clear t7_15
  have kK_16 := Lib.hid (Kd.C_below kK_15.out hbl)
  clear kK_15
  have t9_16 := Lib.hid (blk_in hbl t9_15.out)
  clear t9_15
  have r3K_16 := Lib.hid (Kd.C_below r3K.out hbl)
  clear r3K
  have HB_16 : Hid (Below w.heap.size w a16) := Lib.hid (HB_15.out.trans (hbl.mono HB_15.out.size))
  clear hbl
  go_wp2_with fail
  obtain ⟨a17, hnew⟩ : ∃ W, W = a16.alloc (.cells #[.int .i64 0, .int .i64 0, .slice none 0 0] 31) := ⟨_, rfl⟩
  have hbl : Below a16.heap.size a16 a17 := by rw [hnew]; exact bel_alloc _ _
  have t11_0 := Lib.hid (show a17.heap[a16.heap.size]? = some (.cells #[.int .i64 0, .int .i64 0, .slice none 0 0] 31 (0, 0)) by rw [hnew]; exact blk_new _ _)
  have hz_a17 := Lib.hid (show a17.heap.size = a16.heap.size + 1 by rw [hnew]; simp)
  rw [← hnew]
  clear hnew
  have iK_17 := Lib.hid (Kd.C_below iK_16.out hbl)
  clear iK_16
  have t5_17 := Lib.hid (blk_in hbl t5_16.out)
  clear t5_16
  have jK_17 := Lib.hid (Kd.C_below jK_16.out hbl)
  clear jK_16
  have t7_17 := Lib.hid (blk_in hbl t7_16.out)
  clear t7_16
  have kK_17 := Lib.hid (Kd.C_below kK_16.out hbl)
  clear kK_16
  have t9_17 := Lib.hid (blk_in hbl t9_16.out)
  clear t9_16
  have HB_17 : Hid (Below w.heap.size w a17) := Lib.hid (HB_16.out.trans (hbl.mono HB_16.out.size))
  clear hbl
  have K := tile_in a17
  unfold docv at K
  try simp only [List.length_cons, List.length_nil, Nat.reduceAdd] at K
  with_reducible refine K.mono ?_
  clear K
  rintro en a18 ⟨tA, tn, tc, rfl, hbl⟩
  have iK_18 := Lib.hid (Kd.C_below iK_17.out hbl)
  clear iK_17
  have t5_18 := Lib.hid (blk_in hbl t5_17.out)
  clear t5_17
  have jK_18 := Lib.hid (Kd.C_below jK_17.out hbl)
  clear jK_17
  have t7_18 := Lib.hid (blk_in hbl t7_17.out)
  clear t7_17
  have kK_18 := Lib.hid (Kd.C_below kK_17.out hbl)
  clear kK_17
  have t9_18 := Lib.hid (blk_in hbl t9_17.out)
  clear t9_17
  have t11_18 := Lib.hid (blk_in hbl t11_0.out)
  clear t11_0
  have HB_18 : Hid (Below w.heap.size w a18) := Lib.hid (HB_17.out.trans (hbl.mono HB_17.out.size))
  clear hbl
  go_wp2_with fail
  obtain ⟨a19, hnew⟩ : ∃ W, W = a18.alloc (.cells #[.int .i64 10, .int .i64 10, .slice tA tn tc] 31) := ⟨_, rfl⟩
  have hbl : Below a18.heap.size a18 a19 := by rw [hnew]; exact bel_alloc _ _
  have t13_0 := Lib.hid (show a19.heap[a18.heap.size]? = some (.cells #[.int .i64 10, .int .i64 10, .slice tA tn tc] 31 (0, 0)) by rw [hnew]; exact blk_new _ _)
  have hz_a19 := Lib.hid (show a19.heap.size = a18.heap.size + 1 by rw [hnew]; simp)
  rw [← hnew]
  clear hnew
  have iK_19 := Lib.hid (Kd.C_below iK_18.out hbl)
  clear iK_18
  have t5_19 := Lib.hid (blk_in hbl t5_18.out)
  clear t5_18
  have jK_19 := Lib.hid (Kd.C_below jK_18.out hbl)
  clear jK_18
  have t7_19 := Lib.hid (blk_in hbl t7_18.out)
  clear t7_18
  have kK_19 := Lib.hid (Kd.C_below kK_18.out hbl)
  clear kK_18
  have t9_19 := Lib.hid (blk_in hbl t9_18.out)
  clear t9_18
  have t11_19 := Lib.hid (blk_in hbl t11_18.out)
  clear t11_18
  have HB_19 : Hid (Below w.heap.size w a19) := Lib.hid (HB_18.out.trans (hbl.mono HB_18.out.size))
  clear hbl
  have K := tile_out a19
  unfold docv at K
  try simp only [List.length_cons, List.length_nil, Nat.reduceAdd] at K
  with_reducible refine K.mono ?_
  clear K
  rintro en a20 ⟨rfl, hbl⟩
  have iK_20 := Lib.hid (Kd.C_below iK_19.out hbl)
  clear iK_19
  have t5_20 := Lib.hid (blk_in hbl t5_19.out)
  clear t5_19
  have jK_20 := Lib.hid (Kd.C_below jK_19.out hbl)
  clear jK_19
  have t7_20 := Lib.hid (blk_in hbl t7_19.out)
  clear t7_19
  have kK_20 := Lib.hid (Kd.C_below kK_19.out hbl)
  clear kK_19
  have t9_20 := Lib.hid (blk_in hbl t9_19.out)
  clear t9_19
  have t11_20 := Lib.hid (blk_in hbl t11_19.out)
  clear t11_19
  have t13_20 := Lib.hid (blk_in hbl t13_0.out)
  clear t13_0
  have HB_20 : Hid (Below w.heap.size w a20) := Lib.hid (HB_19.out.trans (hbl.mono HB_19.out.size))
  clear hbl
  obtain ⟨e0, e1, e2, _⟩ := blk3 t5_20.out
  go_wp2_with fail
  obtain ⟨a21, hnew⟩ : ∃ W, W = a20.alloc (.cells #[.int .i64 0, .int .i64 0, .slice none 0 0] 31) := ⟨_, rfl⟩
  have hbl : Below a20.heap.size a20 a21 := by rw [hnew]; exact bel_alloc _ _
  have t15_0 := Lib.hid (show a21.heap[a20.heap.size]? = some (.cells #[.int .i64 0, .int .i64 0, .slice none 0 0] 31 (0, 0)) by rw [hnew]; exact blk_new _ _)
  have hz_a21 := Lib.hid (show a21.heap.size = a20.heap.size + 1 by rw [hnew]; simp)
  rw [← hnew]
  clear hnew
  have iK_21 := Lib.hid (Kd.C_below iK_20.out hbl)
  clear iK_20
  have t5_21 := Lib.hid (blk_in hbl t5_20.out)
  clear t5_20
  have jK_21 := Lib.hid (Kd.C_below jK_20.out hbl)
  clear jK_20
  have t7_21 := Lib.hid (blk_in hbl t7_20.out)
  clear t7_20
  have kK_21 := Lib.hid (Kd.C_below kK_20.out hbl)
  clear kK_20
  have t9_21 := Lib.hid (blk_in hbl t9_20.out)
  clear t9_20
  have t11_21 := Lib.hid (blk_in hbl t11_20.out)
  clear t11_20
  have t13_21 := Lib.hid (blk_in hbl t13_20.out)
  clear t13_20
  have HB_21 : Hid (Below w.heap.size w a21) := Lib.hid (HB_20.out.trans (hbl.mono HB_20.out.size))
  clear hbl
  have hjA : ∃ ad, jA = some ad := by
    obtain ⟨ad, h, _⟩ := Pa.at_T44 jK_21.out 0 (by omega) (by decide)
    exact ⟨ad, h⟩
  obtain ⟨ad, rfl⟩ := hjA
  have hS : ∀ w' : World, Below a21.heap.size a21 w' → w'.cell? ⟨a5.heap.size, 0, none⟩ = some (.int .i64 2) ∧ w'.cell? ⟨a5.heap.size, 1, none⟩ = some (.int .i64 1) ∧ w'.cell? ⟨a5.heap.size, 2, none⟩ = some (.slice iA 2 ic) ∧ w'.cell? ⟨a8.heap.size, 0, none⟩ = some (.int .i64 1) ∧ w'.cell? ⟨a8.heap.size, 1, none⟩ = some (.int .i64 1) ∧ w'.cell? ⟨a8.heap.size, 2, none⟩ = some (.slice (some ad) 1 jc) ∧ w'.cell? ⟨a12.heap.size, 0, none⟩ = some (.int .i64 3) ∧ w'.cell? ⟨a12.heap.size, 1, none⟩ = some (.int .i64 1) ∧ w'.cell? ⟨a12.heap.size, 2, none⟩ = some (.slice kA 3 kc) ∧ w'.cell? ⟨a18.heap.size, 0, none⟩ = some (.int .i64 10) ∧ w'.cell? ⟨a18.heap.size, 1, none⟩ = some (.int .i64 10) ∧ w'.cell? ⟨a18.heap.size, 2, none⟩ = some (.slice tA tn tc) ∧ w'.cell? ad = some (.int .i64 65535) ∧ w'.cell? ⟨ad.block, ad.off + 1, none⟩ = some (.int .i64 65535) ∧ w'.cell? ⟨ad.block, ad.off + 2, none⟩ = some (.int .i64 65535) ∧ w'.cell? ⟨ad.block, ad.off + 3, none⟩ = some (.int .i64 16384) := by
    intro w' hb
    obtain ⟨a0, a1, a2, _⟩ := blk3 (blk_in hb t5_21.out)
    obtain ⟨b0, b1, b2, _⟩ := blk3 (blk_in hb t7_21.out)
    obtain ⟨c0, c1, c2, _⟩ := blk3 (blk_in hb t9_21.out)
    obtain ⟨d0, d1, d2, _⟩ := blk3 (blk_in hb t13_21.out)
    obtain ⟨ad', h, f0, f1, f2, f3⟩ := Pa.at_T44 (Kd.C_below jK_21.out hb) 0 (by omega) (by decide)
    cases h
    have e : ad.add (Int.toNat 0 * 4) = ad := rfl
    rw [e] at f0 f1 f2 f3
    exact ⟨a0, a1, a2, b0, b1, b2, c0, c1, c2, d0, d1, d2, f0, f1, f2, f3⟩
  have HS := Lib.hid hS
  clear hS e0 e1 e2
  have hs0 := HS.out a21 (Below.refl _ _)
  obtain ⟨a0, a1, a2, b0, b1, b2, c0, c1, c2, d0, d1, d2, f0, f1, f2, f3⟩ := hs0
  have hn : needs 5 3 1 2 1 1 1 = (4, 2, 1, 1) := by kernel_rfl
  simp only [List.append]
  refine wp_region_T (D := fun j => j == 15 || j == 16 || j == 17 || j == 53 || j == 54 || j == 55) (S := fun w' => w'.cell? ⟨a5.heap.size, 0, none⟩ = some (.int .i64 2) ∧ w'.cell? ⟨a5.heap.size, 1, none⟩ = some (.int .i64 1) ∧ w'.cell? ⟨a5.heap.size, 2, none⟩ = some (.slice iA 2 ic) ∧ w'.cell? ⟨a12.heap.size, 0, none⟩ = some (.int .i64 3) ∧ w'.cell? ⟨a12.heap.size, 1, none⟩ = some (.int .i64 1) ∧ w'.cell? ⟨a12.heap.size, 2, none⟩ = some (.slice kA 3 kc)) (by kernel_rfl) ?_
  refine wpT_one (i := 0) (by decide +kernel) rfl fun K hK => ?_
  go_simp
  refine hK.out _ _ (fun h => absurd h (by decide)) ?_
  refine wpT_one (i := 1) (by decide +kernel) rfl fun K hK => ?_
  go_simp
  refine hK.out _ _ (fun h => absurd h (by decide)) ?_
  refine wpT_one (i := 2) (by decide +kernel) rfl fun K hK => ?_
  go_simp
  refine hK.out _ _ (fun h => absurd h (by decide)) ?_
  refine wpT_one (i := 3) (by decide +kernel) rfl fun K hK => ?_
  go_simp
  refine hK.out _ _ (fun h => absurd h (by decide)) ?_
  refine wpT_one (i := 4) (by decide +kernel) rfl fun K hK => ?_
  go_simp
  refine hK.out _ _ (fun h => absurd h (by decide)) ?_
  refine wpT_one (i := 5) (by decide +kernel) rfl fun K hK => ?_
  go_simp
  refine hK.out _ _ (fun h => absurd h (by decide)) ?_
  refine wpT_one (i := 6) (by decide +kernel) rfl fun K hK => ?_
  go_simp
  refine hK.out _ _ (fun h => absurd h (by decide)) ?_
  refine wpT_one (i := 7) (by decide +kernel) rfl fun K hK => ?_
  go_simp
  refine hK.out _ _ (fun h => absurd h (by decide)) ?_
  refine wpT_one (i := 8) (by decide +kernel) rfl fun K hK => ?_
  go_simp
  refine hK.out _ _ (fun h => absurd h (by decide)) ?_
  refine wpT_one (i := 9) (by decide +kernel) rfl fun K hK => ?_
  go_simp
  refine hK.out _ _ (fun h => absurd h (by decide)) ?_
  refine wpT_one (i := 10) (by decide +kernel) rfl fun K hK => ?_
  go_simp
  refine hK.out _ _ (fun h => absurd h (by decide)) ?_
  as_aux_lemma =>
   refine wpT_one (i := 11) (by decide +kernel) rfl fun K hK => ?_
   go_simp
   refine hK.out _ _ (fun h => absurd h (by decide)) ?_
   refine wpT_one (i := 12) (by decide +kernel) rfl fun K hK => ?_
   go_simp
   refine hK.out _ _ (fun h => absurd h (by decide)) ?_
   refine wpT_one (i := 13) (by decide +kernel) rfl fun K hK => ?_
   go_simp
   refine hK.out _ _ (fun h => absurd h (by decide)) ?_
   refine wpT_one (i := 14) (by decide +kernel) rfl fun K hK => ?_
   go_simp
   refine hK.out _ _ (fun h => absurd h (by decide)) ?_
   refine wpT_take (i := 15) (v := .agg #[.int .i64 2, .int .i64 1, .slice iA 2 ic]) [18, 19, 20, 21, 22, 23, 24, 25, 26, 27, 28, 29, 30, 31, 32, 33, 34, 35, 36, 37, 38, 39, 40, 41, 42, 43, 44, 45, 46, 47, 48, 49, 50, 51, 52, 53, 54, 55, 56, 57, 58, 59, 60, 61, 62, 63, 64, 65, 66, 67, 68, 69, 70, 71, 72, 73, 74, 75, 76, 77, 78, 79, 80, 81, 82, 83, 84, 85, 86, 87, 88, 89, 90] rfl (by decide +kernel) (by decide +kernel) (by decide +kernel) (by decide +kernel) (by decide +kernel) (fun _ _ _ h => h) (Or.inl ⟨by rfl, by intro w hSw; obtain ⟨g1, g2, g3, g4, g5, g6⟩ := hSw; go_simp⟩) (pick6 (HS.out _ (by repeat (first | exact Below.refl _ _ | exact HC5.out | exact HC4.out | exact HC3.out | exact HC2.out | exact HC1.out | refine Below.drew ?_ | refine Below.alloc ?_ (by first | exact Nat.le_refl _ | exact HC2.out.size | (simp; done)) _)))) ?_
   refine wpT_one (i := 16) (by decide +kernel) rfl fun K hK => ?_
   go_simp
   refine hK.out _ _ (fun _ => pick6 (HS.out _ (by repeat (first | exact Below.refl _ _ | exact HC5.out | exact HC4.out | exact HC3.out | exact HC2.out | exact HC1.out | refine Below.drew ?_ | refine Below.alloc ?_ (by first | exact Nat.le_refl _ | exact HC2.out.size | (simp; done)) _)))) ?_
   refine wpT_one (i := 17) (by decide +kernel) rfl fun K hK => ?_
   go_simp
   have K := Pa.imageeditorlaw35_row.calls 20 (some ⟨a21.heap.size, 0, none⟩) 2 [5, 20] 2 1 [pr 5, pr 20] ((a21.alloc (.cells #[.int .i64 5, .int .i64 20] 3)).drew) (c_ints [5, 20] (by decide) (blk_new a21 (.cells #[.int .i64 5, .int .i64 20] 3))) (Nat.le_refl _) (by kernel_rfl)
   simp only [List.length_cons, List.length_nil, Nat.reduceAdd] at K
   with_reducible refine K.mono ?_
   clear K
   rintro en x1 ⟨vv, rfl, hvv, hb⟩
   obtain ⟨m1A, m1c, rfl, m1h, m1C⟩ := Kd.R_reads hvv
   have M1 := Lib.hid m1C
   have HC1 : Hid (Below a21.heap.size a21 x1) := Lib.hid ((Below.drew (bel_alloc _ _)).trans (hb.mono (by simp)))
   clear hvv m1C hb
   clear a0 a1 a2 b0 b1 b2 c0 c1 c2 d0 d1 d2 f0 f1 f2 f3
   obtain ⟨a0, a1, a2, b0, b1, b2, c0, c1, c2, d0, d1, d2, f0, f1, f2, f3⟩ := HS.out _ HC1.out
   refine hK.out _ _ (fun _ => pick6 (HS.out _ HC1.out)) ?_
   refine wpT_one (i := 18) (by decide +kernel) rfl fun K hK => ?_
   go_simp
   have K := Pa.imageeditorlaw35_same.calls 20 2 1 iA ic [pr 5, pr 20] 2 1 m1A m1c [pr 5, pr 20] true x1 (Kd.C_below iK_21.out HC1.out) ih M1.out m1h (by kernel_rfl)
   simp only [List.length_cons, List.length_nil, Nat.reduceAdd] at K
   with_reducible refine K.mono ?_
   clear K
   rintro en x2 ⟨rfl, hb⟩
   have HC2 := Lib.hid (HC1.out.trans (hb.mono HC1.out.size))
   clear hb
   clear a0 a1 a2 b0 b1 b2 c0 c1 c2 d0 d1 d2 f0 f1 f2 f3
   obtain ⟨a0, a1, a2, b0, b1, b2, c0, c1, c2, d0, d1, d2, f0, f1, f2, f3⟩ := HS.out _ HC2.out
   refine hK.out _ _ (fun h => absurd h (by decide)) ?_
   refine wpT_one (i := 19) (by decide +kernel) rfl fun K hK => ?_
   go_simp
   refine hK.out _ _ (fun h => absurd h (by decide)) ?_
   as_aux_lemma =>
    refine wpT_one (i := 20) (by decide +kernel) rfl fun K hK => ?_
    go_simp
    refine hK.out _ _ (fun h => absurd h (by decide)) ?_
    refine wpT_one (i := 21) (by decide +kernel) rfl fun K hK => ?_
    go_simp
    refine hK.out _ _ (fun h => absurd h (by decide)) ?_
    refine wpT_one (i := 22) (by decide +kernel) rfl fun K hK => ?_
    go_simp
    refine hK.out _ _ (fun h => absurd h (by decide)) ?_
    refine wpT_one (i := 23) (by decide +kernel) rfl fun K hK => ?_
    go_simp
    refine hK.out _ _ (fun h => absurd h (by decide)) ?_
    refine wpT_one (i := 24) (by decide +kernel) rfl fun K hK => ?_
    go_simp
    refine hK.out _ _ (fun h => absurd h (by decide)) ?_
    refine wpT_one (i := 25) (by decide +kernel) rfl fun K hK => ?_
    go_simp
    refine hK.out _ _ (fun h => absurd h (by decide)) ?_
    refine wpT_one (i := 26) (by decide +kernel) rfl fun K hK => ?_
    go_simp
    refine hK.out _ _ (fun h => absurd h (by decide)) ?_
    refine wpT_one (i := 27) (by decide +kernel) rfl fun K hK => ?_
    go_simp
    refine hK.out _ _ (fun h => absurd h (by decide)) ?_
    refine wpT_one (i := 28) (by decide +kernel) rfl fun K hK => ?_
    go_simp
    refine hK.out _ _ (fun h => absurd h (by decide)) ?_
    refine wpT_one (i := 29) (by decide +kernel) rfl fun K hK => ?_
    go_simp
    refine hK.out _ _ (fun h => absurd h (by decide)) ?_
    refine wpT_one (i := 30) (by decide +kernel) rfl fun K hK => ?_
    go_simp
    refine hK.out _ _ (fun h => absurd h (by decide)) ?_
    as_aux_lemma =>
     refine wpT_one (i := 31) (by decide +kernel) rfl fun K hK => ?_
     go_simp
     refine hK.out _ _ (fun h => absurd h (by decide)) ?_
     refine wpT_one (i := 32) (by decide +kernel) rfl fun K hK => ?_
     go_simp
     refine hK.out _ _ (fun h => absurd h (by decide)) ?_
     refine wpT_one (i := 33) (by decide +kernel) rfl fun K hK => ?_
     go_simp
     refine hK.out _ _ (fun h => absurd h (by decide)) ?_
     refine wpT_one (i := 34) (by decide +kernel) rfl fun K hK => ?_
     go_simp
     refine hK.out _ _ (fun h => absurd h (by decide)) ?_
     refine wpT_one (i := 35) (by decide +kernel) rfl fun K hK => ?_
     go_simp
     refine hK.out _ _ (fun h => absurd h (by decide)) ?_
     refine wpT_one (i := 36) (by decide +kernel) rfl fun K hK => ?_
     go_simp
     refine hK.out _ _ (fun h => absurd h (by decide)) ?_
     refine wpT_one (i := 37) (by decide +kernel) rfl fun K hK => ?_
     go_simp
     refine hK.out _ _ (fun h => absurd h (by decide)) ?_
     refine wpT_one (i := 38) (by decide +kernel) rfl fun K hK => ?_
     go_simp
     refine hK.out _ _ (fun h => absurd h (by decide)) ?_
     refine wpT_one (i := 39) (by decide +kernel) rfl fun K hK => ?_
     go_simp
     refine hK.out _ _ (fun h => absurd h (by decide)) ?_
     refine wpT_one (i := 40) (by decide +kernel) rfl fun K hK => ?_
     go_simp
     refine hK.out _ _ (fun h => absurd h (by decide)) ?_
     as_aux_lemma =>
      refine wpT_free_take (i := 45) (v := .agg #[.int .i64 65535, .int .i64 65535, .int .i64 65535, .int .i64 16384]) rfl (by rfl) (by decide +kernel) (by decide +kernel) (by decide +kernel) (fun _ _ _ h => h) (Or.inl ⟨by rfl, by intro w hSw; go_simp⟩) ?_
      refine wpT_one (i := 41) (by decide +kernel) rfl fun K hK => ?_
      go_simp
      refine hK.out _ _ (fun h => absurd h (by decide)) ?_
      refine wpT_one (i := 42) (by decide +kernel) rfl fun K hK => ?_
      go_simp
      refine hK.out _ _ (fun h => absurd h (by decide)) ?_
      refine wpT_one (i := 43) (by decide +kernel) rfl fun K hK => ?_
      go_simp
      refine hK.out _ _ (fun h => absurd h (by decide)) ?_
      refine wpT_one (i := 44) (by decide +kernel) rfl fun K hK => ?_
      go_simp
      refine hK.out _ _ (fun h => absurd h (by decide)) ?_
      refine wpT_one (i := 46) (by decide +kernel) rfl fun K hK => ?_
      go_simp
      refine hK.out _ _ (fun h => absurd h (by decide)) ?_
      refine wpT_one (i := 47) (by decide +kernel) rfl fun K hK => ?_
      go_simp
      refine hK.out _ _ (fun h => absurd h (by decide)) ?_
      refine wpT_one (i := 48) (by decide +kernel) rfl fun K hK => ?_
      go_simp
      refine hK.out _ _ (fun h => absurd h (by decide)) ?_
      refine wpT_one (i := 49) (by decide +kernel) rfl fun K hK => ?_
      go_simp
      refine hK.out _ _ (fun h => absurd h (by decide)) ?_
      refine wpT_one (i := 50) (by decide +kernel) rfl fun K hK => ?_
      go_simp
      refine hK.out _ _ (fun h => absurd h (by decide)) ?_
      refine wpT_one (i := 51) (by decide +kernel) rfl fun K hK => ?_
      go_simp
      refine hK.out _ _ (fun h => absurd h (by decide)) ?_
      refine wpT_one (i := 52) (by decide +kernel) rfl fun K hK => ?_
      go_simp
      refine hK.out _ _ (fun h => absurd h (by decide)) ?_
      as_aux_lemma =>
       refine wpT_take (i := 53) (v := .agg #[.int .i64 3, .int .i64 1, .slice kA 3 kc]) [56, 57, 58, 59, 60, 61, 62, 63, 64, 65, 66, 67, 68, 69, 70, 71, 72, 73, 74, 75, 76, 77, 78, 79, 80, 81, 82, 83, 84, 85, 86, 87, 88, 89, 90] rfl (by decide +kernel) (by decide +kernel) (by decide +kernel) (by decide +kernel) (by decide +kernel) (fun _ _ _ h => h) (Or.inl ⟨by rfl, by intro w hSw; obtain ⟨g1, g2, g3, g4, g5, g6⟩ := hSw; go_simp⟩) (pick6 (HS.out _ (by repeat (first | exact Below.refl _ _ | exact HC5.out | exact HC4.out | exact HC3.out | exact HC2.out | exact HC1.out | refine Below.drew ?_ | refine Below.alloc ?_ (by first | exact Nat.le_refl _ | exact HC2.out.size | (simp; done)) _)))) ?_
       refine wpT_one (i := 54) (by decide +kernel) rfl fun K hK => ?_
       go_simp
       refine hK.out _ _ (fun _ => pick6 (HS.out _ (by repeat (first | exact Below.refl _ _ | exact HC5.out | exact HC4.out | exact HC3.out | exact HC2.out | exact HC1.out | refine Below.drew ?_ | refine Below.alloc ?_ (by first | exact Nat.le_refl _ | exact HC2.out.size | (simp; done)) _)))) ?_
       refine wpT_one (i := 55) (by decide +kernel) rfl fun K hK => ?_
       go_simp
       have K := Pa.imageeditorlaw35_row.calls 20 (some ⟨x2.heap.size, 0, none⟩) 3 [1, 2, 3] 3 1 [pr 1, pr 2, pr 3] (x2.alloc (.cells #[.int .i64 1, .int .i64 2, .int .i64 3] 3)) (c_ints [1, 2, 3] (by decide) (blk_new x2 (.cells #[.int .i64 1, .int .i64 2, .int .i64 3] 3))) (Nat.le_refl _) (by kernel_rfl)
       simp only [List.length_cons, List.length_nil, Nat.reduceAdd] at K
       with_reducible refine K.mono ?_
       clear K
       rintro en x3 ⟨vv, rfl, hvv, hb⟩
       obtain ⟨m3A, m3c, rfl, m3h, m3C⟩ := Kd.R_reads hvv
       have M3 := Lib.hid m3C
       have HC3 : Hid (Below a21.heap.size a21 x3) := Lib.hid ((HC2.out.trans ((bel_alloc _ _).mono HC2.out.size)).trans (hb.mono (Nat.le_trans HC2.out.size (by simp))))
       clear hvv m3C hb
       clear a0 a1 a2 b0 b1 b2 c0 c1 c2 d0 d1 d2 f0 f1 f2 f3
       obtain ⟨a0, a1, a2, b0, b1, b2, c0, c1, c2, d0, d1, d2, f0, f1, f2, f3⟩ := HS.out _ HC3.out
       refine hK.out _ _ (fun _ => pick6 (HS.out _ HC3.out)) ?_
       refine wpT_one (i := 56) (by decide +kernel) rfl fun K hK => ?_
       go_simp
       have K := Pa.imageeditorlaw35_same.calls 20 3 1 kA kc [pr 1, pr 2, pr 3] 3 1 m3A m3c [pr 1, pr 2, pr 3] true x3 (Kd.C_below kK_21.out HC3.out) kh M3.out m3h (by kernel_rfl)
       simp only [List.length_cons, List.length_nil, Nat.reduceAdd] at K
       with_reducible refine K.mono ?_
       clear K
       rintro en x4 ⟨rfl, hb⟩
       have HC4 := Lib.hid (HC3.out.trans (hb.mono HC3.out.size))
       clear hb
       clear a0 a1 a2 b0 b1 b2 c0 c1 c2 d0 d1 d2 f0 f1 f2 f3
       obtain ⟨a0, a1, a2, b0, b1, b2, c0, c1, c2, d0, d1, d2, f0, f1, f2, f3⟩ := HS.out _ HC4.out
       refine hK.out _ _ (fun h => absurd h (by decide)) ?_
       refine wpT_one (i := 57) (by decide +kernel) rfl fun K hK => ?_
       go_simp
       refine hK.out _ _ (fun h => absurd h (by decide)) ?_
       refine wpT_one (i := 58) (by decide +kernel) rfl fun K hK => ?_
       go_simp
       refine hK.out _ _ (fun h => absurd h (by decide)) ?_
       as_aux_lemma =>
        refine wpT_one (i := 59) (by decide +kernel) rfl fun K hK => ?_
        go_simp
        refine hK.out _ _ (fun h => absurd h (by decide)) ?_
        refine wpT_one (i := 60) (by decide +kernel) rfl fun K hK => ?_
        go_simp
        refine hK.out _ _ (fun h => absurd h (by decide)) ?_
        refine wpT_one (i := 61) (by decide +kernel) rfl fun K hK => ?_
        go_simp
        refine hK.out _ _ (fun h => absurd h (by decide)) ?_
        refine wpT_one (i := 62) (by decide +kernel) rfl fun K hK => ?_
        go_simp
        refine hK.out _ _ (fun h => absurd h (by decide)) ?_
        refine wpT_one (i := 63) (by decide +kernel) rfl fun K hK => ?_
        go_simp
        refine hK.out _ _ (fun h => absurd h (by decide)) ?_
        refine wpT_one (i := 64) (by decide +kernel) rfl fun K hK => ?_
        go_simp
        refine hK.out _ _ (fun h => absurd h (by decide)) ?_
        refine wpT_one (i := 65) (by decide +kernel) rfl fun K hK => ?_
        go_simp
        refine hK.out _ _ (fun h => absurd h (by decide)) ?_
        refine wpT_one (i := 66) (by decide +kernel) rfl fun K hK => ?_
        go_simp
        refine hK.out _ _ (fun h => absurd h (by decide)) ?_
        refine wpT_free_take (i := 69) (v := .agg #[.int .i64 4, .int .i64 2, .int .i64 1, .int .i64 1]) rfl (by rfl) (by decide +kernel) (by decide +kernel) (by decide +kernel) (fun _ _ _ h => h) (Or.inl ⟨by rfl, by intro w hSw; go_simp⟩) ?_
        refine wpT_one (i := 67) (by decide +kernel) rfl fun K hK => ?_
        go_simp
        refine hK.out _ _ (fun h => absurd h (by decide)) ?_
        as_aux_lemma =>
         refine wpT_one (i := 68) (by decide +kernel) rfl fun K hK => ?_
         go_simp
         have K := needs_any 5 3 1 2 1 1 1 x4
         rw [hn] at K
         unfold rv at K
         with_reducible refine K.mono ?_
         clear K
         rintro en x5 ⟨rfl, hb⟩
         have HC5 := Lib.hid (HC4.out.trans (hb.mono HC4.out.size))
         clear hb
         clear a0 a1 a2 b0 b1 b2 c0 c1 c2 d0 d1 d2 f0 f1 f2 f3
         obtain ⟨a0, a1, a2, b0, b1, b2, c0, c1, c2, d0, d1, d2, f0, f1, f2, f3⟩ := HS.out _ HC5.out
         refine hK.out _ _ (fun h => absurd h (by decide)) ?_
         refine wpT_one (i := 70) (by decide +kernel) rfl fun K hK => ?_
         go_simp
         refine hK.out _ _ (fun h => absurd h (by decide)) ?_
         refine wpT_one (i := 71) (by decide +kernel) rfl fun K hK => ?_
         go_simp
         refine hK.out _ _ (fun h => absurd h (by decide)) ?_
         refine wpT_one (i := 72) (by decide +kernel) rfl fun K hK => ?_
         go_simp
         refine hK.out _ _ (fun h => absurd h (by decide)) ?_
         refine wpT_one (i := 73) (by decide +kernel) rfl fun K hK => ?_
         go_simp
         refine hK.out _ _ (fun h => absurd h (by decide)) ?_
         refine wpT_one (i := 74) (by decide +kernel) rfl fun K hK => ?_
         go_simp
         refine hK.out _ _ (fun h => absurd h (by decide)) ?_
         refine wpT_one (i := 75) (by decide +kernel) rfl fun K hK => ?_
         go_simp
         refine hK.out _ _ (fun h => absurd h (by decide)) ?_
         as_aux_lemma =>
          refine wpT_one (i := 76) (by decide +kernel) rfl fun K hK => ?_
          go_simp
          refine hK.out _ _ (fun h => absurd h (by decide)) ?_
          refine wpT_one (i := 77) (by decide +kernel) rfl fun K hK => ?_
          go_simp
          refine hK.out _ _ (fun h => absurd h (by decide)) ?_
          refine wpT_one (i := 78) (by decide +kernel) rfl fun K hK => ?_
          go_simp
          refine hK.out _ _ (fun h => absurd h (by decide)) ?_
          refine wpT_one (i := 79) (by decide +kernel) rfl fun K hK => ?_
          go_simp
          refine hK.out _ _ (fun h => absurd h (by decide)) ?_
          refine wpT_one (i := 80) (by decide +kernel) rfl fun K hK => ?_
          go_simp
          refine hK.out _ _ (fun h => absurd h (by decide)) ?_
          refine wpT_one (i := 81) (by decide +kernel) rfl fun K hK => ?_
          go_simp
          refine hK.out _ _ (fun h => absurd h (by decide)) ?_
          refine wpT_one (i := 82) (by decide +kernel) rfl fun K hK => ?_
          go_simp
          refine hK.out _ _ (fun h => absurd h (by decide)) ?_
          refine wpT_one (i := 83) (by decide +kernel) rfl fun K hK => ?_
          go_simp
          refine hK.out _ _ (fun h => absurd h (by decide)) ?_
          as_aux_lemma =>
           refine wpT_one (i := 84) (by decide +kernel) rfl fun K hK => ?_
           go_simp
           refine hK.out _ _ (fun h => absurd h (by decide)) ?_
           refine wpT_one (i := 85) (by decide +kernel) rfl fun K hK => ?_
           go_simp
           refine hK.out _ _ (fun h => absurd h (by decide)) ?_
           refine wpT_one (i := 86) (by decide +kernel) rfl fun K hK => ?_
           go_simp
           refine hK.out _ _ (fun h => absurd h (by decide)) ?_
           refine wpT_one (i := 87) (by decide +kernel) rfl fun K hK => ?_
           go_simp
           refine hK.out _ _ (fun h => absurd h (by decide)) ?_
           refine wpT_one (i := 88) (by decide +kernel) rfl fun K hK => ?_
           go_simp
           refine hK.out _ _ (fun h => absurd h (by decide)) ?_
           refine wpT_one (i := 89) (by decide +kernel) rfl fun K hK => ?_
           go_simp
           refine hK.out _ _ (fun h => absurd h (by decide)) ?_
           refine wpT_one (i := 90) (by decide +kernel) rfl fun K hK => ?_
           go_simp
           refine hK.out _ _ (fun h => absurd h (by decide)) ?_
           refine wpT_done (by decide +kernel) ?_ _
           go_wp2
           go_ret
           exact ⟨rfl, HB_21.out.trans (HC5.out.mono HB_21.out.size)⟩
end Go.Proofs.YtkchkfmggbejfaaGreatDoor
