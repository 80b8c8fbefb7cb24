/- The reference's Copied: an image, pixel by pixel. -/
import Derived.Test.YtpdjfcnlbaaogaaM
namespace Go.Proofs.Ytpdjfcnlbaaogaa
open Go.RowKit

theorem flatP_at (l : List Mo.Px) (j : Nat) (h : j < l.length) : (flatP l)[j * 4]? = some (.int .i64 l[j].r) ∧ (flatP l)[j * 4 + 1]? = some (.int .i64 l[j].g) ∧ (flatP l)[j * 4 + 2]? = some (.int .i64 l[j].b) ∧ (flatP l)[j * 4 + 3]? = some (.int .i64 l[j].a) := by
  induction l generalizing j with
  | nil => simp at h
  | cons a r ih =>
    have hc : flatP (a :: r) = [.int .i64 a.r, .int .i64 a.g, .int .i64 a.b, .int .i64 a.a] ++ flatP r := rfl
    cases j with
    | zero => simp [hc]
    | succ j =>
      obtain ⟨h0, h1, h2, h3⟩ := ih j (by simpa using h)
      have e : ∀ m, (flatP (a :: r))[(j + 1) * 4 + m]? = (flatP r)[j * 4 + m]? := by
        intro m
        rw [hc, List.getElem?_append_right (by simp; omega)]
        congr 1
        simp; omega
      simp only [List.getElem_cons_succ]
      exact ⟨(e 0).trans h0, (e 1).trans h1, (e 2).trans h2, (e 3).trans h3⟩

theorem add_next (ad : Addr) (m r : Nat) (hr : 0 < r) : ad.add (m + r) = ⟨(ad.add m).block, (ad.add m).off + r, none⟩ := by
  unfold Addr.add
  rw [if_neg (by omega)]
  split
  · simp_all
  · simp; omega

set_option maxHeartbeats 1000000 in
theorem rcopied_in (A : Option Addr) (n c : Nat) (i : Mo.Im) (w : World) (h : PixIn w A n i.pix) :
    Calls Try.prog 40 #[.agg #[.int .i64 i.w, .int .i64 i.h, .slice A n c]] w fun e w' => ∃ v', e = .returned v' ∧ ImIs w' w.heap.size v' i ∧ Below w.heap.size w w' := by
  go_enter Try.func40, Try.ntmps40
  go_wp2_with fail
  obtain ⟨W, hW⟩ : ∃ W, W = ((w.alloc (.cells #[.int .i64 i.w, .int .i64 i.h, .slice A n c] 32)).alloc (.cells #[.int .i64 0, .int .i64 0, .slice none 0 0] 32)).alloc (.cells #[.int .i64 i.w, .int .i64 i.h, .slice none 0 0] 32) := ⟨_, rfl⟩
  rw [← hW]
  have hbW : Below w.heap.size w W := by rw [hW]; exact ((Below.alloc (Below.refl _ _) (Nat.le_refl _) _).alloc (by simp) _).alloc (by simp; omega) _
  have hiW : W.heap[w.heap.size]? = some (.cells #[.int .i64 i.w, .int .i64 i.h, .slice A n c] 32 (0, 0)) := by rw [hW]; exact blk_alloc _ (blk_alloc _ (blk_new w _))
  have hrW : W.heap[w.heap.size + 1]? = some (.cells #[.int .i64 0, .int .i64 0, .slice none 0 0] 32 (0, 0)) := by rw [hW]; exact blk_alloc _ (blk_at _ _ _ (by simp))
  have hoW : W.heap[w.heap.size + 1 + 1]? = some (.cells #[.int .i64 i.w, .int .i64 i.h, .slice none 0 0] 32 (0, 0)) := by rw [hW]; exact blk_at _ _ _ (by simp)
  have hsW : W.heap.size = w.heap.size + 1 + 1 + 1 := by rw [hW]; simp
  have HiW := Lib.hid hiW
  have HrW := Lib.hid hrW
  have HoW := Lib.hid hoW
  have HbW := Lib.hid hbW
  have HsW := Lib.hid hsW
  obtain ⟨hlen, hroom, hnone, hcell⟩ := h
  have Hlen := Lib.hid hlen
  have Hcell := Lib.hid hcell
  have Hnone := Lib.hid hnone
  obtain ⟨i0, hi0, hz0, hz1, hz2⟩ := info_parts info63
  clear hW hiW hrW hoW hbW hsW hlen hcell hnone
  go_loopw [4] (fun v wr => ∃ (j : Nat) (vp : Value), j ≤ n ∧ v = .int .i64 j ∧ wr.heap[w.heap.size + 1 + 1]? = some (.cells #[.int .i64 i.w, .int .i64 i.h, vp] 32 (0, 0)) ∧ wr.ownsRow W.heap.size 63 4 vp j (flatP (i.pix.take j)) ∧ Fr W wr (fun b => b = w.heap.size + 1 + 1)) (fun v _ => n - (intOf v).toNat)
  case atStart => exact ⟨0, .slice none 0 0, Nat.zero_le _, rfl, HoW.out, World.ownsRow_nil _ _ _ _, Fr.refl _ _⟩
  case round =>
    obtain ⟨j, vp, hj, rfl, ho, hown, hfr⟩ := hrel
    have hsz := hfr.size
    have hi := (hfr.block _ (Array.getElem?_eq_some_iff.1 HiW.out).1 (by omega)).trans HiW.out
    have hr := (hfr.block _ (Array.getElem?_eq_some_iff.1 HrW.out).1 (by omega)).trans HrW.out
    obtain ⟨ci0, ci1, ci2, _⟩ := blk3 hi
    obtain ⟨co0, co1, co2, fo0, fo1, fo2⟩ := blk3 ho
    have Ho := Lib.hid ho
    have Hown := Lib.hid hown
    have Hfr := Lib.hid hfr
    have Hr := Lib.hid hr
    clear hi hr ho hown hfr
    by_cases hlt : j < n
    · have hltx : j < i.pix.length := by rw [Hlen.out]; exact hlt
      obtain ⟨ad, rfl⟩ : ∃ ad, A = some ad := by
        cases A with
        | none => exact absurd (Hnone.out rfl) (by omega)
        | some ad => exact ⟨ad, rfl⟩
      obtain ⟨q0, q1, q2, q3⟩ := flatP_at i.pix j hltx
      have hold : ∀ a u, w.cell? a = some u → wr.cell? a = some u := by
        intro a u hu
        have hb := World.block_lt_of_cell? w _ hu
        have h1 : W.cell? a = some u := (HbW.out.cell hb).trans hu
        have h2 : wr.heap[a.block]? = W.heap[a.block]? := Hfr.out.block _ (by have := HsW.out; omega) (by omega)
        exact (World.cell?_of_block (w := W) h2).trans h1
      have hpl : (ad.add (j * 4)).block < wr.heap.size := by
        have := World.block_lt_of_cell? w _ (Hcell.out ad rfl _ _ q0)
        have := HsW.out
        omega
      have p0 := hold _ _ (Hcell.out ad rfl _ _ q0)
      have p1 := hold _ _ (Hcell.out ad rfl _ _ q1)
      have p2 := hold _ _ (Hcell.out ad rfl _ _ q2)
      have p3 := hold _ _ (Hcell.out ad rfl _ _ q3)
      rw [add_next _ _ _ (by omega)] at p1 p2 p3
      have hol : w.heap.size + 1 + 1 < wr.heap.size := (Array.getElem?_eq_some_iff.1 Ho.out).1
      have hil : w.heap.size < wr.heap.size := by omega
      have hne : vp.ownBlock ≠ some (w.heap.size + 1 + 1) := own_notblock Hown.out Ho.out (by decide)
      have htk := List.take_succ_eq_append_getElem hltx
      have Htk := Lib.hid htk
      have hjn : (j + 1) * 32 ≤ 140737488355328 := by omega
      have hjl : (i.pix.take j).length = j := by rw [List.length_take]; omega
      have Hjl := Lib.hid hjl
      clear q0 q1 q2 q3 hold htk hjl
      go_wp2_with fail
      go_region_law (refine step_append_lies _ (by rfl) _ _ _ (by rfl) W.heap.size 63 i0 _ 4 32 Try.underlying30 hi0 hz0 hz1 hz2 rfl (by omega) vp j (flatP (i.pix.take j)) (by rfl) ((Hown.out.alloc _).drew) ⟨wr.heap.size, 0, none⟩ 1 1 (pcells i.pix[j]) (by rfl) (by rfl) (World.news_of_block (cs := (pcells i.pix[j]).toArray) (t := 63) (fr := (0, 0)) (heap_alloc_new wr _)) (by simp [Value.oneCell', pcells]) (by omega) (by simp [maxLen]; omega) hjn (by simp; omega) (wr.heap.size + 1) (by simp) ?_; intro gg cap w2 hown2 hgrow hat hlt2; have ho2 : w2.heap[w.heap.size + 1 + 1]? = _ := (hgrow.block _ (by simp; omega) (Ne.symm hne)).trans (blk_alloc _ Ho.out); have cz := (blk3 ho2).2.2.1; have fz := (blk3 ho2).2.2.2.2.2; have Ho2 := Lib.hid ho2; clear ho2)
      all_goals
        go_wp2
        go_roundw
        case rel =>
          refine ⟨j + 1, .slice (some ⟨gg, 0, none⟩) (j + 1) cap, by omega, by go_num, blk_set Ho2.out 2 _, own_set ?_ (own_notblock hown2 Ho2.out (by decide)) _, ?_⟩
          · rw [Htk.out, flatP_append]; exact hown2
          · refine Fr.setCell (F := fun b => b = w.heap.size + 1 + 1) (a := ⟨w.heap.size + 1 + 1, 2, none⟩) ?_ (.inl rfl) _
            refine Fr.grown (Fr.drew (Fr.alloc Hfr.out _)) hgrow fun b hb => .inr ?_
            exact (Hown.out.lt b hb).1
        case measure => simp [intOf]; omega
    · have hjn : j = n := by omega
      obtain ⟨A', c', rfl⟩ := own_slice Hown.out
      obtain ⟨cr0, cr1, cr2, fr0, fr1, fr2⟩ := blk3 Hr.out
      have hsw := HsW.out
      have HjN := Lib.hid hjn
      clear hjn
      go_wp2
      refine bodyPost_ret (v := .agg #[.int .i64 i.w, .int .i64 i.h, .slice A' j c']) (by simp [results, Try.results40, go_sem, *]) rfl ⟨_, rfl, ⟨_, rfl, ?_⟩, ?_⟩
      · have h1 := Hown.out
        have h2 : i.pix.length = j := by rw [Hlen.out, HjN.out]
        rw [← h2, List.take_length] at h1
        rw [← h2]
        refine own_lower (ownsRow_setCell_below (ownsRow_setCell_below (ownsRow_setCell_below h1 ?_ _) ?_ _) ?_ _) ?_ <;> first | omega | (simp; omega)
      · refine Below.setCell (Below.setCell (Below.setCell ?_ ?_ _) ?_ _) ?_ _
        · exact HbW.out.trans (Hfr.out.toBelow (B := w.heap.size) (by omega) (fun b hb => by omega))
        all_goals simp
end Go.Proofs.Ytpdjfcnlbaaogaa
